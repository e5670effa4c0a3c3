/- A part of the proofs of this seat: a small logic of walks, plain laws, and what some of the program's functions compute, shown by walks through their code. Conditions: the hypotheses that each theorem names. -/
import Derived.Test.YthcoaljmgkhglaaZOTop3
import Derived.Test.YthcoaljmgkhglaaZOTop8
import Derived.Test.YthcoaljmgkhglaaZOTop7
import Derived.Test.YthcoaljmgkhglaaZOTop2
import Derived.Test.YthcoaljmgkhglaaZOTop6
set_option linter.unusedSimpArgs false
set_option linter.unusedVariables false
set_option linter.unusedSectionVars false
namespace Go.Proofs.Ythcoaljmgkhglaa
open Go Go.Sx Go.RowKit
attribute [local irreducible] WL WC WQ WR St Exit.then Exit.inBlock Exit.noGoto bodyPost roundPost beginK YR RG BM Calls B AgainD MeetD
/-! ## Two -/
def encIt (x : Srt.It) : List Value := [.int .i64 x.id, .int .i64 x.stop, .bool x.first, .bool x.second]
theorem encIt_len : ∀ x, (encIt x).length = 4 := fun _ => rfl
theorem encIt_one : ∀ x, (encIt x).all (·.oneCell') = true := fun _ => rfl
@[reducible] def itV (x : Srt.It) : Value := .agg #[.int .i64 x.id, .int .i64 x.stop, .bool x.first, .bool x.second]
def itM (l : List Srt.It) : List (Value × Value) := l.map fun x => (.int .i64 x.id, itV x)
theorem itM_mk {l : List Srt.It} (h : (l.map Srt.It.id).Nodup) : MK (.int .i64) (itM l) := by
  refine ⟨fun p hp => ?_, ?_⟩
  · obtain ⟨s, _, rfl⟩ := List.mem_map.1 hp
    rfl
  · have e : (itM l).map Prod.fst = (l.map Srt.It.id).map (fun x => Value.int .i64 x) := by simp [itM, Function.comp_def]
    rw [e]
    exact List.pairwise_map.2 (h.imp fun hne e => hne (by cases e; rfl))
theorem itM_in {l : List Srt.It} {x : Srt.It} {j : Nat} {id : Int} (h : l[j]? = some x) (hx : x.id = id) : (itM l)[j]? = some (.int .i64 id, itV x) := by simp [itM, h, hx]
theorem itM_out {l : List Srt.It} {id : Int} (h : id ∉ l.map Srt.It.id) : ∀ p ∈ itM l, p.1 ≠ .int .i64 id := by
  intro p hp e
  obtain ⟨s, hs, rfl⟩ := List.mem_map.1 hp
  cases e
  exact h (List.mem_map.2 ⟨s, hs, rfl⟩)
def bothOW (m1 m2 : Srt.M) (o : List Int) (v : Value) (N : List Ent) : Prop := ∃ x1 y1 x2 y2 x3 y3 x4 y4 x5 y5 z1 t1 z2 t2 z3 t3 z4 t4 z5 t5 ao co ss tt N1 M1 N2 N3 N4 N5 P1 O1 P2 P3 P4 P5 NO,
  v = .agg #[.slice x1 m1.stackers.length y1, .slice x2 m1.swept.length y2, .slice x3 m1.over.length y3, .slice x4 m1.rej.length y4, .slice x5 m1.evs.length y5, .slice z1 m2.stackers.length t1, .slice z2 m2.swept.length t2, .slice z3 m2.over.length t3, .slice z4 m2.rej.length t4, .slice z5 m2.evs.length t5, .slice ao o.length co] ∧
  OW 34 1 encS (.slice x1 m1.stackers.length y1) ss N1 ∧ LL 3 1 encI ss m1.stackers M1 ∧ OW 3 1 encI (.slice x2 m1.swept.length y2) m1.swept N2 ∧ OW 3 1 encI (.slice x3 m1.over.length y3) m1.over N3 ∧ OW 3 1 encI (.slice x4 m1.rej.length y4) m1.rej N4 ∧ OW 123 3 encE (.slice x5 m1.evs.length y5) m1.evs N5 ∧
  OW 34 1 encS (.slice z1 m2.stackers.length t1) tt P1 ∧ LL 3 1 encI tt m2.stackers O1 ∧ OW 3 1 encI (.slice z2 m2.swept.length t2) m2.swept P2 ∧ OW 3 1 encI (.slice z3 m2.over.length t3) m2.over P3 ∧ OW 3 1 encI (.slice z4 m2.rej.length t4) m2.rej P4 ∧ OW 123 3 encE (.slice z5 m2.evs.length t5) m2.evs P5 ∧
  OW 3 1 encI (.slice ao o.length co) o NO ∧ N = N1 ++ (M1 ++ (N2 ++ (N3 ++ (N4 ++ (N5 ++ (P1 ++ (O1 ++ (P2 ++ (P3 ++ (P4 ++ (P5 ++ NO)))))))))))
theorem bothOW.own {m1 m2 : Srt.M} {o : List Int} {v : Value} {N : List Ent} (h : bothOW m1 m2 o v N) : ∀ x ∈ N, x.own = true := by
  obtain ⟨x1, y1, x2, y2, x3, y3, x4, y4, x5, y5, z1, t1, z2, t2, z3, t3, z4, t4, z5, t5, ao, co, ss, tt, N1, M1, N2, N3, N4, N5, P1, O1, P2, P3, P4, P5, NO, rfl, h1, h2, h3, h4, h5, h6, k1, k2, k3, k4, k5, k6, k7, rfl⟩ := h
  have := show AO _ from .app h1.own (.app h2.own (.app h3.own (.app h4.own (.app h5.own (.app h6.own (.app k1.own (.app k2.own (.app k3.own (.app k4.own (.app k5.own (.app k6.own (k7.own : AO NO))))))))))))
  exact this
def twoφ (p : Seq.Plan) (s : Int) (items : List Srt.It) (v : Value) (N : List Ent) : Prop :=
  (Srt.twoE p s items ≠ 0 ∧ v = .tuple #[.agg ([.slice none 0 0, .slice none 0 0, .slice none 0 0, .slice none 0 0, .slice none 0 0, .slice none 0 0, .slice none 0 0, .slice none 0 0, .slice none 0 0, .slice none 0 0, .slice none 0 0] : List Value).toArray, .int .i64 (Srt.twoE p s items)] ∧ N = []) ∨
  (Srt.twoE p s items = 0 ∧ ∃ bv, v = .tuple #[bv, .int .i64 0] ∧ bothOW (Srt.pass1 p s items) (Srt.pass2 p s items) (Srt.orderF p s items) bv N)
set_option maxHeartbeats 32000000 in
set_option maxRecDepth 100000 in
theorem two_calls {pv iv : Value} {p : Seq.Plan} {s : Int} {items : List Srt.It} (w : World) (hp : PV w pv p) (hi : SV w 4 encIt iv items) : Calls Try.prog 10 #[pv, .int .i64 s, iv] w fun e w' => ∃ v N, e = .returned v ∧ twoφ p s items v N ∧ Rep w w' N ∧ ∀ x ∈ N, x.own = true := by
  have hp0 := hp
  obtain ⟨a1, c1, a2, c2, a3, c3, a4, c4, rfl, h1, h2, h3, h4⟩ := hp.open
  obtain ⟨a5, c5, rfl, hc5, hopi⟩ := hi.open
  obtain ⟨_, _, e2, hc2, hop2⟩ := h2.open
  cases e2
  have hchk := fun (w' : World) (L : List Ent) (hw : Rep w w' L) (ho : AO L) => check_calls w' (hp0.keep hw ho)
  by_cases hz : (Seq.checkF p).2 ≠ 0
  · have e : Srt.twoE p s items = (Seq.checkF p).2 := by unfold Srt.twoE; rw [if_pos hz]
    unfold twoφ
    rw [e]
    generalize Seq.checkF p = ck at hz hchk ⊢
    obtain ⟨i, k⟩ := ck
    dsimp only at hz hchk ⊢
    unfold errV at hchk
    refine f_enter3 Try.func10 rfl Try.ntmps10 rfl (Rep.start w) ?_
    repeat' (first | ((first | ((with_reducible apply o_call_pure (f := 9)); exact rfl) | ((with_reducible apply q_call_pure (f := 9)); exact rfl; kernel_rfl; exact rfl; exact sJ_)); exact eV_; exact (fun w hw => hchk w _ hw (by exact aO_))) | ((with_reducible first | apply o_move | apply o_assign | apply o_faddr0); exact rfl; exact rfl) | ((with_reducible apply gdo_load); first | refine wo_load (h := ?_) | refine wo_loadAll (h := ?_) | refine wo_loadC (h := ?_) | refine wo_ldV (h := ?_)) | ((with_reducible first | apply o_lss | apply o_gtr | apply o_neq | apply o_extract); exact rfl; exact rfl; exact rfl) | ((with_reducible first | apply o_alloc | apply o_makeMap0); exact rfl; intro _) | ((with_reducible apply o_box); exact rfl; exact rfl; exact rfl; intro _) | ((with_reducible apply gdo_store); first | refine wo_store1 (h := ?_) | refine wo_storeA (h := ?_)) | ((with_reducible apply gdo_build); first | refine wo_build (h := ?_) | refine wo_buildA (h := ?_)) | ((with_reducible first | apply c_seq | apply c_block | apply c_region | apply c_nil | apply c_ret | apply c_exit | apply c_skip)) | ((with_reducible apply c_cond_t); exact rfl; exact tT_) | ((with_reducible first | apply e_then | apply e_then_ret | apply e_then_exit | apply e_in | apply e_in_ret | apply e_in_same)))
    apply r_body; apply res2 Try.results10; exact rV_; exact rV_; intro w' hw
    exact ⟨_, [], rfl, .inl ⟨hz, rfl, rfl⟩, hw.sub (by exact hS_), by simp⟩
  have hz0 : (Seq.checkF p).2 = 0 := by omega
  obtain ⟨hok, hz1⟩ := Srt.POk.of_check hz0
  rw [hz1] at hchk
  unfold errV at hchk
  dsimp only at hchk
  by_cases hs : s < 0 ∨ 1000 < s
  · have e : Srt.twoE p s items = 2 := by unfold Srt.twoE; rw [if_neg hz, if_pos hs]
    unfold twoφ
    rw [e]
    refine f_enter3 Try.func10 rfl Try.ntmps10 rfl (Rep.start w) ?_
    repeat' (first | ((first | ((with_reducible apply o_call_pure (f := 9)); exact rfl) | ((with_reducible apply q_call_pure (f := 9)); exact rfl; kernel_rfl; exact rfl; exact sJ_)); exact eV_; exact (fun w hw => hchk w _ hw (by exact aO_))) | ((with_reducible first | apply o_move | apply o_assign | apply o_faddr0); exact rfl; exact rfl) | ((with_reducible apply gdo_load); first | refine wo_load (h := ?_) | refine wo_loadAll (h := ?_) | refine wo_loadC (h := ?_) | refine wo_ldV (h := ?_)) | ((with_reducible first | apply o_lss | apply o_gtr | apply o_neq | apply o_extract); exact rfl; exact rfl; exact rfl) | ((with_reducible apply o_pick_t); exact rfl; exact tT_; exact rfl; exact rfl) | ((with_reducible apply o_pick_f); exact rfl; exact fF_; exact rfl; exact rfl) | ((with_reducible first | apply o_alloc | apply o_makeMap0); exact rfl; intro _) | ((with_reducible apply o_box); exact rfl; exact rfl; exact rfl; intro _) | ((with_reducible apply gdo_store); first | refine wo_store1 (h := ?_) | refine wo_storeA (h := ?_)) | ((with_reducible apply gdo_build); first | refine wo_build (h := ?_) | refine wo_buildA (h := ?_)) | ((with_reducible first | apply g_run); exact rfl; exact gG_) | ((with_reducible apply g_skip); exact rfl; exact gG_; exact rfl) | ((with_reducible first | apply c_seq | apply c_block | apply c_region | apply c_nil | apply c_ret | apply c_exit | apply c_skip)) | ((with_reducible apply c_cond_t); exact rfl; exact tT_) | ((with_reducible apply c_cond_f); exact rfl; exact fF_) | ((with_reducible first | apply e_then | apply e_then_ret | apply e_then_exit | apply e_in | apply e_in_ret | apply e_in_same)) | ((with_reducible apply g_split_d); exact rfl; intro hcond; rotate_left; intro hcond; rotate_left))
    all_goals first
      | (exfalso; omega)
      | (apply r_body; apply res2 Try.results10; exact rV_; exact rV_; intro w' hw; exact ⟨_, [], rfl, .inl ⟨by decide, rfl, rfl⟩, hw.sub (by exact hS_), by simp⟩)
  by_cases hbig : 2000 < items.length
  · have e : Srt.twoE p s items = 5 := by unfold Srt.twoE; rw [if_neg hz, if_neg hs, if_pos hbig]
    unfold twoφ
    rw [e]
    refine f_enter3 Try.func10 rfl Try.ntmps10 rfl (Rep.start w) ?_
    repeat' (first | ((first | ((with_reducible apply o_call_pure (f := 9)); exact rfl) | ((with_reducible apply q_call_pure (f := 9)); exact rfl; kernel_rfl; exact rfl; exact sJ_)); exact eV_; exact (fun w hw => hchk w _ hw (by exact aO_))) | ((with_reducible first | apply o_move | apply o_assign | apply o_faddr0); exact rfl; exact rfl) | ((with_reducible apply gdo_load); first | refine wo_load (h := ?_) | refine wo_loadAll (h := ?_) | refine wo_loadC (h := ?_) | refine wo_ldV (h := ?_)) | ((with_reducible first | apply o_lss | apply o_gtr | apply o_neq | apply o_extract); exact rfl; exact rfl; exact rfl) | ((with_reducible apply o_pick_f); exact rfl; exact fF_; exact rfl; exact rfl) | ((with_reducible first | apply o_alloc | apply o_makeMap0); exact rfl; intro _) | ((with_reducible apply o_box); exact rfl; exact rfl; exact rfl; intro _) | ((with_reducible apply gdo_store); first | refine wo_store1 (h := ?_) | refine wo_storeA (h := ?_)) | ((with_reducible apply gdo_build); first | refine wo_build (h := ?_) | refine wo_buildA (h := ?_)) | ((with_reducible apply o_len); infer_instance; exact rfl; exact rfl) | ((with_reducible first | apply g_run); exact rfl; exact gG_) | ((with_reducible first | apply c_seq | apply c_block | apply c_region | apply c_nil | apply c_ret | apply c_exit | apply c_skip)) | ((with_reducible apply c_cond_t); exact rfl; exact tT_) | ((with_reducible apply c_cond_f); exact rfl; exact fF_) | ((with_reducible first | apply e_then | apply e_then_ret | apply e_then_exit | apply e_in | apply e_in_ret | apply e_in_same)))
    apply r_body; apply res2 Try.results10; exact rV_; exact rV_; intro w' hw
    exact ⟨_, [], rfl, .inl ⟨by decide, rfl, rfl⟩, hw.sub (by exact hS_), by simp⟩
  have e0 : Srt.twoE p s items = if Srt.badI [] items = true then 292 else 0 := by unfold Srt.twoE; rw [if_neg hz, if_neg hs, if_neg hbig]
  refine f_enter3 Try.func10 rfl Try.ntmps10 rfl (Rep.start w) ?_
  repeat' (first | ((first | ((with_reducible apply o_call_pure (f := 9)); exact rfl) | ((with_reducible apply q_call_pure (f := 9)); exact rfl; kernel_rfl; exact rfl; exact sJ_)); exact eV_; exact (fun w hw => hchk w _ hw (by exact aO_))) | ((with_reducible first | apply o_move | apply o_assign | apply o_faddr0); exact rfl; exact rfl) | ((with_reducible apply gdo_load); first | refine wo_load (h := ?_) | refine wo_loadAll (h := ?_) | refine wo_loadC (h := ?_) | refine wo_ldV (h := ?_)) | ((with_reducible first | apply o_lss | apply o_gtr | apply o_neq | apply o_extract); exact rfl; exact rfl; exact rfl) | ((with_reducible apply o_pick_f); exact rfl; exact fF_; exact rfl; exact rfl) | ((with_reducible first | apply o_alloc | apply o_makeMap0); exact rfl; intro _) | ((with_reducible apply o_box); exact rfl; exact rfl; exact rfl; intro _) | ((with_reducible apply o_len); infer_instance; exact rfl; exact rfl) | ((with_reducible apply o_makeMap); infer_instance; exact rfl; exact rfl; intro _) | ((with_reducible first | apply g_run); exact rfl; exact gG_) | ((with_reducible first | apply c_seq | apply c_block | apply c_region | apply c_nil | apply c_ret | apply c_exit | apply c_skip)) | ((with_reducible apply c_cond_f); exact rfl; exact fF_) | ((with_reducible first | apply e_then | apply e_then_ret | apply e_then_exit | apply e_in | apply e_in_ret | apply e_in_same)))
  rename_i b3 b6 bm
  apply c_loop (σ := Nat) (Fs := fun i => [(53, .int .i64 i), (52, .int .i64 items.length), (51, .slice a5 items.length c5), (10, .map (some bm)), (6, ptr b6), (3, ptr b3), (1, .int .i64 s), (2, .slice a5 items.length c5)])
    (Ls := fun i => ⟨bm, MO (itM (items.take i)), true⟩ :: ⟨b6, Ce [.slice none 0 0, .slice none 0 0, .slice none 0 0, .slice none 0 0, .slice none 0 0, .slice none 0 0, .slice none 0 0, .slice none 0 0, .slice none 0 0, .slice none 0 0, .slice none 0 0] 62, true⟩ :: ⟨b3, Ce [.slice a1 p.caps.length c1, .slice a2 p.seats.length c2, .slice a3 p.first.length c3, .slice a4 p.second.length c4] 51, true⟩ :: []) (I := fun i => i ≤ items.length ∧ ((items.take i).map Srt.It.id).Nodup ∧ Srt.badI [] items = Srt.badI ((items.take i).map Srt.It.id) (items.drop i)) (μ := fun i => items.length - i) (s0 := 0)
  · exact ⟨Nat.zero_le _, by simp, by simp⟩
  · exact fS_
  · exact hS_
  rintro i ⟨hil, hnd, hbad⟩
  by_cases hlt : i < items.length
  · obtain ⟨x, hx⟩ : ∃ s, items[i]? = some s := ⟨_, List.getElem?_eq_getElem hlt⟩
    obtain ⟨b, off, cc, e, fz, rfl, hk, hpt⟩ := hopi (by omega)
    have g1 := hpt.get hx
    have e1 : itM (items.take (i + 1)) = itM (items.take i) ++ [(.int .i64 x.id, itV x)] := by rw [take_snoc hx]; simp [itM]
    have e3 : (items.take (i + 1)).map Srt.It.id = (items.take i).map Srt.It.id ++ [x.id] := by rw [take_snoc hx]; simp
    rw [drop_at hx, Srt.badI] at hbad
    by_cases hm : x.id ∈ (items.take i).map Srt.It.id
    · rw [if_neg (fun h => h.2 hm)] at hbad
      rw [hbad, if_pos rfl] at e0
      unfold twoφ
      rw [e0]
      obtain ⟨y, hy, hyx⟩ := List.mem_map.1 hm
      obtain ⟨j, hj⟩ := List.getElem?_of_mem hy
      have hlook := itM_in hj hyx
      repeat' (first | ((with_reducible apply o_lookT_in (m := itM (items.take i)) (j := j)); infer_instance; infer_instance; exact rfl; exact rfl; exact kN_; exact itM_mk hnd; exact rfl; exact hlook; exact rfl) | ((with_reducible first | apply o_move | apply o_assign | apply o_faddr0); exact rfl; exact rfl) | ((with_reducible apply gdo_load); first | refine wo_load (h := ?_) | refine wo_loadAll (h := ?_) | refine wo_loadC (h := ?_) | refine wo_ldV (h := ?_)) | ((with_reducible first | apply o_lss | apply o_gtr | apply o_neq | apply o_extract); exact rfl; exact rfl; exact rfl) | ((with_reducible apply o_pick_t); exact rfl; exact tT_; exact rfl; exact rfl) | ((with_reducible first | apply o_alloc | apply o_makeMap0); exact rfl; intro _) | ((with_reducible apply gdo_store); first | refine wo_store1 (h := ?_) | refine wo_storeA (h := ?_)) | ((with_reducible apply gdo_build); first | refine wo_build (h := ?_) | refine wo_buildA (h := ?_)) | ((with_reducible apply o_idx); infer_instance; infer_instance; exact rfl; exact rfl; (first | exact rfl | omega); exact rfl; (first | assumption | omega | decide)) | ((with_reducible apply g_skip); exact rfl; exact gG_; exact rfl) | ((with_reducible first | apply c_seq | apply c_block | apply c_region | apply c_nil | apply c_ret | apply c_exit | apply c_skip)) | ((with_reducible apply c_cond_t); exact rfl; exact tT_) | ((with_reducible first | apply e_then | apply e_then_ret | apply e_then_exit | apply e_in | apply e_in_ret | apply e_in_same)))
      apply r_body; apply res2 Try.results10; exact rV_; exact rV_; intro w' hw
      exact ⟨_, [], rfl, .inl ⟨by decide, rfl, rfl⟩, hw.sub (by exact hS_), by simp⟩
    by_cases hok2 : 1 ≤ x.id ∧ x.id ≤ 999999
    · rw [if_pos ⟨hok2, hm⟩] at hbad
      have hlo := itM_out hm
      repeat' (first | ((with_reducible apply o_lookT_out (m := itM (items.take i))); infer_instance; infer_instance; infer_instance; exact rfl; exact rfl; exact kN_; exact itM_mk hnd; exact rfl; exact hlo; exact rfl) | ((with_reducible apply o_mapNew (m := itM (items.take i))); infer_instance; infer_instance; exact rfl; exact rfl; exact rfl; exact itM_mk hnd; exact rfl; exact hlo; exact uP_) | ((with_reducible first | apply o_move | apply o_assign | apply o_faddr0); exact rfl; exact rfl) | ((with_reducible apply gdo_load); first | refine wo_load (h := ?_) | refine wo_loadAll (h := ?_) | refine wo_loadC (h := ?_) | refine wo_ldV (h := ?_)) | ((with_reducible first | apply o_lss | apply o_gtr | apply o_neq | apply o_extract); exact rfl; exact rfl; exact rfl) | ((with_reducible apply o_add); exact rfl; exact rfl; exact rfl; (constructor <;> omega)) | ((with_reducible apply o_pick_f); exact rfl; exact fF_; exact rfl; exact rfl) | ((with_reducible first | apply o_alloc | apply o_makeMap0); exact rfl; intro _) | ((with_reducible apply gdo_store); first | refine wo_store1 (h := ?_) | refine wo_storeA (h := ?_)) | ((with_reducible apply o_idx); infer_instance; infer_instance; exact rfl; exact rfl; (first | exact rfl | omega); exact rfl; (first | assumption | omega | decide)) | ((with_reducible first | apply g_run); exact rfl; exact gG_) | ((with_reducible first | apply c_seq | apply c_block | apply c_region | apply c_nil | apply c_ret | apply c_exit | apply c_skip)) | ((with_reducible apply c_cond_t); exact rfl; exact tT_) | ((with_reducible apply c_cond_f); exact rfl; exact fF_) | ((with_reducible first | apply e_then | apply e_then_ret | apply e_then_exit | apply e_in | apply e_in_ret | apply e_in_same)))
      refine l_again (i + 1) ⟨by omega, ?_, ?_⟩ (by omega) ?_ ?_
      · rw [e3]
        rw [List.nodup_append]
        refine ⟨hnd, by simp, fun a ha b hb e => ?_⟩
        simp at hb; subst hb; subst e; exact hm ha
      · rw [e3]; exact hbad
      · exact fS_
      · simp only [e1]; exact hS_
    · rw [if_neg (fun h => hok2 h.1)] at hbad
      rw [hbad, if_pos rfl] at e0
      unfold twoφ
      rw [e0]
      have hlo := itM_out hm
      repeat' (first | ((with_reducible apply o_lookT_out (m := itM (items.take i))); infer_instance; infer_instance; infer_instance; exact rfl; exact rfl; exact kN_; exact itM_mk hnd; exact rfl; exact hlo; exact rfl) | ((with_reducible first | apply o_move | apply o_assign | apply o_faddr0); exact rfl; exact rfl) | ((with_reducible apply gdo_load); first | refine wo_load (h := ?_) | refine wo_loadAll (h := ?_) | refine wo_loadC (h := ?_) | refine wo_ldV (h := ?_)) | ((with_reducible first | apply o_lss | apply o_gtr | apply o_neq | apply o_extract); exact rfl; exact rfl; exact rfl) | ((with_reducible apply o_pick_t); exact rfl; exact tT_; exact rfl; exact rfl) | ((with_reducible apply o_pick_f); exact rfl; exact fF_; exact rfl; exact rfl) | ((with_reducible first | apply o_alloc | apply o_makeMap0); exact rfl; intro _) | ((with_reducible apply gdo_store); first | refine wo_store1 (h := ?_) | refine wo_storeA (h := ?_)) | ((with_reducible apply gdo_build); first | refine wo_build (h := ?_) | refine wo_buildA (h := ?_)) | ((with_reducible apply o_idx); infer_instance; infer_instance; exact rfl; exact rfl; (first | exact rfl | omega); exact rfl; (first | assumption | omega | decide)) | ((with_reducible first | apply g_run); exact rfl; exact gG_) | ((with_reducible apply g_skip); exact rfl; exact gG_; exact rfl) | ((with_reducible first | apply c_seq | apply c_block | apply c_region | apply c_nil | apply c_ret | apply c_exit | apply c_skip)) | ((with_reducible apply c_cond_t); exact rfl; exact tT_) | ((with_reducible first | apply e_then | apply e_then_ret | apply e_then_exit | apply e_in | apply e_in_ret | apply e_in_same)) | ((with_reducible apply g_split_d); exact rfl; intro hcond; rotate_left; intro hcond; rotate_left))
      all_goals first
        | (exfalso; omega)
        | (apply r_body; apply res2 Try.results10; exact rV_; exact rV_; intro w' hw; exact ⟨_, [], rfl, .inl ⟨by decide, rfl, rfl⟩, hw.sub (by exact hS_), by simp⟩)
  rw [List.drop_of_length_le (by omega), Srt.badI] at hbad
  rw [List.take_of_length_le (by omega)] at hnd
  rw [hbad, if_neg (by simp)] at e0
  rw [List.take_of_length_le (by omega)]
  repeat' (first | ((with_reducible first | apply o_move | apply o_assign | apply o_faddr0); exact rfl; exact rfl) | ((with_reducible apply gdo_load); first | refine wo_load (h := ?_) | refine wo_loadAll (h := ?_) | refine wo_loadC (h := ?_) | refine wo_ldV (h := ?_)) | ((with_reducible first | apply o_lss | apply o_gtr | apply o_neq | apply o_extract); exact rfl; exact rfl; exact rfl) | ((with_reducible apply o_len); infer_instance; exact rfl; exact rfl) | ((with_reducible apply o_makeMap); infer_instance; exact rfl; exact rfl; intro _) | ((with_reducible first | apply c_seq | apply c_block | apply c_region | apply c_nil | apply c_ret | apply c_exit | apply c_skip)) | ((with_reducible apply c_cond_f); exact rfl; exact fF_) | ((with_reducible first | apply e_then | apply e_then_ret | apply e_then_exit | apply e_in | apply e_in_ret | apply e_in_same)))
  rename_i bs
  apply c_loop (σ := Nat) (Fs := fun i => [(88, .int .i64 i), (87, .int .i64 p.seats.length), (86, .slice a2 p.seats.length c2), (15, .map (some bs)), (10, .map (some bm)), (6, ptr b6), (3, ptr b3), (1, .int .i64 s), (2, .slice a5 items.length c5)])
    (Ls := fun i => ⟨bs, MO (seatM (p.seats.take i)), true⟩ :: ⟨bm, MO (itM items), true⟩ :: ⟨b6, Ce [.slice none 0 0, .slice none 0 0, .slice none 0 0, .slice none 0 0, .slice none 0 0, .slice none 0 0, .slice none 0 0, .slice none 0 0, .slice none 0 0, .slice none 0 0, .slice none 0 0] 62, true⟩ :: ⟨b3, Ce [.slice a1 p.caps.length c1, .slice a2 p.seats.length c2, .slice a3 p.first.length c3, .slice a4 p.second.length c4] 51, true⟩ :: []) (I := fun i => i ≤ p.seats.length) (μ := fun i => p.seats.length - i) (s0 := 0)
  · exact Nat.zero_le _
  · exact fS_
  · exact hS_
  intro k hkl
  have hkl : k ≤ p.seats.length := hkl
  by_cases hlt2 : k < p.seats.length
  · obtain ⟨t, hx⟩ : ∃ s, p.seats[k]? = some s := ⟨_, List.getElem?_eq_getElem hlt2⟩
    obtain ⟨b, off, cc, e, fz, rfl, hk, hpt⟩ := hop2 (by omega)
    have g1 := hpt.get hx
    have hnd2 := hok.nd
    have e1 : seatM (p.seats.take (k + 1)) = seatM (p.seats.take k) ++ [(.int .i64 t.stop, seatV t)] := by rw [take_snoc hx]; simp [seatM]
    have e2 : (p.seats.map Seq.Seat.stop) = (p.seats.take k).map Seq.Seat.stop ++ t.stop :: (p.seats.drop (k + 1)).map Seq.Seat.stop := by
      conv => lhs; rw [← List.take_append_drop k p.seats, drop_at hx]
      simp
    have hnd1 : ((p.seats.take k).map Seq.Seat.stop).Nodup := by rw [e2] at hnd2; exact (List.nodup_append.1 hnd2).1
    have hout : ∀ q ∈ seatM (p.seats.take k), q.1 ≠ .int .i64 t.stop := by
      intro p' hp' e3
      obtain ⟨q, hq, rfl⟩ := List.mem_map.1 hp'
      simp only [Value.int.injEq, true_and] at e3
      rw [e2] at hnd2
      exact (List.nodup_append.1 hnd2).2.2 _ (List.mem_map.2 ⟨q, hq, rfl⟩) _ List.mem_cons_self e3
    repeat' (first | ((with_reducible apply o_mapNew (m := seatM (p.seats.take k))); infer_instance; infer_instance; exact rfl; exact rfl; exact rfl; exact seatM_mk hnd1; exact rfl; exact hout; exact uP_) | ((with_reducible first | apply o_move | apply o_assign | apply o_faddr0); exact rfl; exact rfl) | ((with_reducible apply gdo_load); first | refine wo_load (h := ?_) | refine wo_loadAll (h := ?_) | refine wo_loadC (h := ?_) | refine wo_ldV (h := ?_)) | ((with_reducible first | apply o_lss | apply o_gtr | apply o_neq | apply o_extract); exact rfl; exact rfl; exact rfl) | ((with_reducible apply o_add); exact rfl; exact rfl; exact rfl; (constructor <;> omega)) | ((with_reducible first | apply o_alloc | apply o_makeMap0); exact rfl; intro _) | ((with_reducible apply gdo_store); first | refine wo_store1 (h := ?_) | refine wo_storeA (h := ?_)) | ((with_reducible apply o_idx); infer_instance; infer_instance; exact rfl; exact rfl; (first | exact rfl | omega); exact rfl; (first | assumption | omega | decide)) | ((with_reducible first | apply c_seq | apply c_block | apply c_region | apply c_nil | apply c_ret | apply c_exit | apply c_skip)) | ((with_reducible apply c_cond_t); exact rfl; exact tT_) | ((with_reducible first | apply e_then | apply e_then_ret | apply e_then_exit | apply e_in | apply e_in_ret | apply e_in_same)))
    refine l_again (k + 1) (show k + 1 ≤ p.seats.length by omega) (show p.seats.length - (k + 1) < p.seats.length - k by omega) ?_ ?_
    · exact fS_
    · simp only [e1]; exact hS_
  rw [List.take_of_length_le (by omega)]
  have hnd2 := hok.nd
  have hcl := hok.mach.1
  repeat' (first | ((with_reducible first | apply o_move | apply o_assign | apply o_faddr0); exact rfl; exact rfl) | ((with_reducible first | apply o_lss | apply o_gtr | apply o_neq | apply o_extract); exact rfl; exact rfl; exact rfl) | ((with_reducible apply o_len); infer_instance; exact rfl; exact rfl) | ((with_reducible first | apply c_seq | apply c_block | apply c_region | apply c_nil | apply c_ret | apply c_exit | apply c_skip)) | ((with_reducible apply c_cond_f); exact rfl; exact fF_) | ((with_reducible first | apply e_then | apply e_then_ret | apply e_then_exit | apply e_in | apply e_in_ret | apply e_in_same)))
  apply c_loop (σ := Nat × (Option Addr × Nat) × List Ent) (Fs := fun t => [(99, .int .i64 t.1), (98, .int .i64 items.length), (97, .slice a5 items.length c5), (18, .slice t.2.1.1 (Srt.feeds1 p (items.take t.1)).length t.2.1.2), (15, .map (some bs)), (10, .map (some bm)), (6, ptr b6), (3, ptr b3), (1, .int .i64 s)])
    (Ls := fun t => t.2.2 ++ (⟨bs, MO (seatM p.seats), true⟩ :: ⟨bm, MO (itM items), true⟩ :: ⟨b6, Ce [.slice none 0 0, .slice none 0 0, .slice none 0 0, .slice none 0 0, .slice none 0 0, .slice none 0 0, .slice none 0 0, .slice none 0 0, .slice none 0 0, .slice none 0 0, .slice none 0 0] 62, true⟩ :: ⟨b3, Ce [.slice a1 p.caps.length c1, .slice a2 p.seats.length c2, .slice a3 p.first.length c3, .slice a4 p.second.length c4] 51, true⟩ :: [])) (I := fun t => t.1 ≤ items.length ∧ OW 105 2 encF (.slice t.2.1.1 (Srt.feeds1 p (items.take t.1)).length t.2.1.2) (Srt.feeds1 p (items.take t.1)) t.2.2) (μ := fun t => items.length - t.1) (s0 := (0, (none, 0), []))
  · exact ⟨Nat.zero_le _, OW.nil⟩
  · exact fS_
  · exact hS_
  rintro ⟨j, ⟨ad, cp⟩, N⟩ ⟨hj, hO⟩
  dsimp only at hj hO ⊢
  have hN := hO.own
  have hlen1 : (Srt.feeds1 p (items.take j)).length = j := by simp [Srt.feeds1]; omega
  by_cases hlt3 : j < items.length
  · obtain ⟨x, hx⟩ : ∃ s, items[j]? = some s := ⟨_, List.getElem?_eq_getElem hlt3⟩
    obtain ⟨b, off, cc, e, fz, rfl, hk, hpt⟩ := hopi (by omega)
    have g1 := hpt.get hx
    have e1 := Srt.feeds1_take p items hx
    unfold Srt.st1 at e1
    cases hfd : Seq.findF p.seats x.stop with
    | none =>
      simp only [hfd] at e1
      repeat' (first | ((with_reducible apply o_lookT_out (m := seatM p.seats)); infer_instance; infer_instance; infer_instance; exact rfl; exact rfl; exact kN_; exact seatM_mk hnd2; exact rfl; exact seatM_out hfd; exact rfl) | (apply o_appH (enc := encF) (ys := [(⟨x.id, -1⟩ : Srt.Fd)]); infer_instance; infer_instance; infer_instance; exact rfl; exact encF_len; exact encF_one; exact rfl; exact rfl; exact rfl; assumption; exact rL_; (exact fun w hw => SV.lit [(⟨x.id, -1⟩ : Srt.Fd)] encF_len hw (by exact aT_) rfl rfl (by decide)); (first | decide | (constructor <;> (try simp only [List.length_cons, List.length_nil]) <;> omega) | (constructor <;> simp <;> omega)); intro _ _ _ _) | ((with_reducible first | apply o_move | apply o_assign | apply o_faddr0); exact rfl; exact rfl) | ((with_reducible apply gdo_load); first | refine wo_load (h := ?_) | refine wo_loadAll (h := ?_) | refine wo_loadC (h := ?_) | refine wo_ldV (h := ?_)) | ((with_reducible first | apply o_lss | apply o_gtr | apply o_neq | apply o_extract); exact rfl; exact rfl; exact rfl) | ((with_reducible apply o_add); exact rfl; exact rfl; exact rfl; (constructor <;> omega)) | ((with_reducible apply o_pick_f); exact rfl; exact fF_; exact rfl; exact rfl) | ((with_reducible first | apply o_alloc | apply o_makeMap0); exact rfl; intro _) | ((with_reducible apply gdo_store); first | refine wo_store1 (h := ?_) | refine wo_storeA (h := ?_)) | ((with_reducible apply gdo_build); first | refine wo_build (h := ?_) | refine wo_buildA (h := ?_)) | ((with_reducible apply gdo_buildSlice); refine wo_buildSlice (h := fun _ => ?_)) | ((with_reducible apply o_idx); infer_instance; infer_instance; exact rfl; exact rfl; (first | exact rfl | omega); exact rfl; (first | assumption | omega | decide)) | ((with_reducible apply g_skip); exact rfl; exact gG_; exact rfl) | ((with_reducible first | apply c_seq | apply c_block | apply c_region | apply c_nil | apply c_ret | apply c_exit | apply c_skip)) | ((with_reducible apply c_cond_t); exact rfl; exact tT_) | ((with_reducible apply c_cond_f); exact rfl; exact fF_) | ((with_reducible first | apply e_then | apply e_then_ret | apply e_then_exit | apply e_in | apply e_in_ret | apply e_in_same)))
      rename_i a' cp' N' hO'
      rw [← e1] at hO' ⊢
      refine l_again (j + 1, (a', cp'), N') ⟨by dsimp only; omega, hO'⟩ (by dsimp only; omega) ?_ ?_
      · exact fS_
      · exact hS_
    | some t =>
      simp only [hfd] at e1
      obtain ⟨jj, hjj, hst⟩ := findF_some hfd
      have hlook := seatM_in hjj hst
      cases hfi : x.first with
      | true =>
        rw [if_pos hfi] at e1
        repeat' (first | ((with_reducible apply o_lookT_in (m := seatM p.seats) (j := jj)); infer_instance; infer_instance; exact rfl; exact rfl; exact kN_; exact seatM_mk hnd2; exact rfl; exact hlook; exact rfl) | (apply o_appH (enc := encF) (ys := [(⟨x.id, t.first⟩ : Srt.Fd)]); infer_instance; infer_instance; infer_instance; exact rfl; exact encF_len; exact encF_one; exact rfl; exact rfl; exact rfl; assumption; exact rL_; (exact fun w hw => SV.lit [(⟨x.id, t.first⟩ : Srt.Fd)] encF_len hw (by exact aT_) rfl rfl (by decide)); (first | decide | (constructor <;> (try simp only [List.length_cons, List.length_nil]) <;> omega) | (constructor <;> simp <;> omega)); intro _ _ _ _) | ((with_reducible first | apply o_move | apply o_assign | apply o_faddr0); exact rfl; exact rfl) | ((with_reducible apply gdo_load); first | refine wo_load (h := ?_) | refine wo_loadAll (h := ?_) | refine wo_loadC (h := ?_) | refine wo_ldV (h := ?_)) | ((with_reducible first | apply o_lss | apply o_gtr | apply o_neq | apply o_extract); exact rfl; exact rfl; exact rfl) | ((with_reducible apply o_add); exact rfl; exact rfl; exact rfl; (constructor <;> omega)) | ((with_reducible apply o_pick_t); exact rfl; exact tT_; exact rfl; exact rfl) | ((with_reducible first | apply o_alloc | apply o_makeMap0); exact rfl; intro _) | ((with_reducible apply gdo_store); first | refine wo_store1 (h := ?_) | refine wo_storeA (h := ?_)) | ((with_reducible apply gdo_build); first | refine wo_build (h := ?_) | refine wo_buildA (h := ?_)) | ((with_reducible apply gdo_buildSlice); refine wo_buildSlice (h := fun _ => ?_)) | ((with_reducible apply o_idx); infer_instance; infer_instance; exact rfl; exact rfl; (first | exact rfl | omega); exact rfl; (first | assumption | omega | decide)) | ((with_reducible first | apply g_run); exact rfl; exact gG_) | ((with_reducible first | apply c_seq | apply c_block | apply c_region | apply c_nil | apply c_ret | apply c_exit | apply c_skip)) | ((with_reducible apply c_cond_t); exact rfl; exact tT_) | ((with_reducible first | apply e_then | apply e_then_ret | apply e_then_exit | apply e_in | apply e_in_ret | apply e_in_same)))
        rename_i a' cp' N' hO'
        rw [← e1] at hO' ⊢
        refine l_again (j + 1, (a', cp'), N') ⟨by dsimp only; omega, hO'⟩ (by dsimp only; omega) ?_ ?_
        · exact fS_
        · exact hS_
      | false =>
        rw [if_neg (by simp [hfi])] at e1
        repeat' (first | ((with_reducible apply o_lookT_in (m := seatM p.seats) (j := jj)); infer_instance; infer_instance; exact rfl; exact rfl; exact kN_; exact seatM_mk hnd2; exact rfl; exact hlook; exact rfl) | (apply o_appH (enc := encF) (ys := [(⟨x.id, -1⟩ : Srt.Fd)]); infer_instance; infer_instance; infer_instance; exact rfl; exact encF_len; exact encF_one; exact rfl; exact rfl; exact rfl; assumption; exact rL_; (exact fun w hw => SV.lit [(⟨x.id, -1⟩ : Srt.Fd)] encF_len hw (by exact aT_) rfl rfl (by decide)); (first | decide | (constructor <;> (try simp only [List.length_cons, List.length_nil]) <;> omega) | (constructor <;> simp <;> omega)); intro _ _ _ _) | ((with_reducible first | apply o_move | apply o_assign | apply o_faddr0); exact rfl; exact rfl) | ((with_reducible apply gdo_load); first | refine wo_load (h := ?_) | refine wo_loadAll (h := ?_) | refine wo_loadC (h := ?_) | refine wo_ldV (h := ?_)) | ((with_reducible first | apply o_lss | apply o_gtr | apply o_neq | apply o_extract); exact rfl; exact rfl; exact rfl) | ((with_reducible apply o_add); exact rfl; exact rfl; exact rfl; (constructor <;> omega)) | ((with_reducible apply o_pick_t); exact rfl; exact tT_; exact rfl; exact rfl) | ((with_reducible first | apply o_alloc | apply o_makeMap0); exact rfl; intro _) | ((with_reducible apply gdo_store); first | refine wo_store1 (h := ?_) | refine wo_storeA (h := ?_)) | ((with_reducible apply gdo_build); first | refine wo_build (h := ?_) | refine wo_buildA (h := ?_)) | ((with_reducible apply gdo_buildSlice); refine wo_buildSlice (h := fun _ => ?_)) | ((with_reducible apply o_idx); infer_instance; infer_instance; exact rfl; exact rfl; (first | exact rfl | omega); exact rfl; (first | assumption | omega | decide)) | ((with_reducible first | apply g_run); exact rfl; exact gG_) | ((with_reducible first | apply c_seq | apply c_block | apply c_region | apply c_nil | apply c_ret | apply c_exit | apply c_skip)) | ((with_reducible apply c_cond_t); exact rfl; exact tT_) | ((with_reducible apply c_cond_f); exact rfl; exact fF_) | ((with_reducible first | apply e_then | apply e_then_ret | apply e_then_exit | apply e_in | apply e_in_ret | apply e_in_same)))
        rename_i a' cp' N' hO'
        rw [← e1] at hO' ⊢
        refine l_again (j + 1, (a', cp'), N') ⟨by dsimp only; omega, hO'⟩ (by dsimp only; omega) ?_ ?_
        · exact fS_
        · exact hS_
  rw [List.take_of_length_le (by omega)] at hO ⊢
  have hlf1 : (Srt.feeds1 p items).length ≤ 2000 := by simp [Srt.feeds1]; omega
  have hL1 : (Srt.pass1 p s items).stackers.flatten.length ≤ 2000 := by
    have := Srt.playF_flat_len (s := s) (Srt.feeds1_lt hok items)
    have h3 : (Srt.feeds1 p items).length = items.length := by simp [Srt.feeds1]
    unfold Srt.leaveF at this
    unfold Srt.pass1
    omega
  have hpl1 : ∀ (w : World) (cv fv : Value), SV w 1 encI cv p.caps → SV w 2 encF fv (Srt.feeds1 p items) → Calls Try.prog 29 #[cv, .int .i64 s, fv] w fun e w' => ∃ v N, e = .returned v ∧ passOW (Srt.pass1 p s items) v N ∧ Rep w w' N ∧ ∀ x ∈ N, x.own = true := fun w cv fv q1 q2 => play_calls w q1 q2 hcl.2 (by omega) (Srt.feeds1_lt hok items) (by omega)
  have hmem := fun (id : Int) (h : id ∈ (Srt.pass1 p s items).stackers.flatten) => Srt.leave1_mem hok s hnd (id := id) h
  repeat' (first | ((first | ((with_reducible apply o_call_new (f := 29)); exact rfl) | ((with_reducible apply q_call_new (f := 29)); exact rfl; exact rfl; exact sJ_)); exact eV_; exact (fun w hw => hpl1 w _ _ (h1.keep hw (by exact aO_)) (hO.sv encF_len (by exact rL_) hw)); rintro v N' ⟨x1, y1, x2, y2, x3, y3, x4, y4, x5, y5, ss, N1, M1, N2, N3, N4, N5, rfl, g1, g2, g3, g4, g5, g6, rfl⟩ <;> (try simp only [List.cons_append, List.nil_append, List.append_assoc])) | ((with_reducible apply o_ldV (k := 5) (l := [.slice x1 (Srt.pass1 p s items).stackers.length y1, .slice x2 (Srt.pass1 p s items).swept.length y2, .slice x3 (Srt.pass1 p s items).over.length y3, .slice x4 (Srt.pass1 p s items).rej.length y4, .slice x5 (Srt.pass1 p s items).evs.length y5])); infer_instance; infer_instance; exact rfl; exact kN_; (intro j v hj; rcases j with _ | _ | _ | _ | _ | j <;> simp_all); exact rfl; exact rfl) | ((first | ((with_reducible apply o_call_new (f := 30)); exact rfl) | ((with_reducible apply q_call_new (f := 30)); exact rfl; exact rfl; exact sJ_)); exact eV_; exact (fun w hw => leave_calls w (g1.sv encS_len (by exact rL_) hw) (g2.sl encI_len (by exact rL_) hw) (by omega)); rintro v NL ⟨al, cl, rfl, gl, ol⟩ <;> (try simp only [List.cons_append, List.nil_append, List.append_assoc])) | ((with_reducible first | apply o_move | apply o_assign | apply o_faddr0); exact rfl; exact rfl) | ((with_reducible apply gdo_load); first | refine wo_load (h := ?_) | refine wo_loadAll (h := ?_) | refine wo_loadC (h := ?_) | refine wo_ldV (h := ?_)) | ((with_reducible first | apply o_lss | apply o_gtr | apply o_neq | apply o_extract); exact rfl; exact rfl; exact rfl) | ((with_reducible first | apply o_alloc | apply o_makeMap0); exact rfl; intro _) | ((with_reducible apply gdo_store); first | refine wo_store1 (h := ?_) | refine wo_storeA (h := ?_)) | ((with_reducible apply o_len); infer_instance; exact rfl; exact rfl) | ((with_reducible first | apply c_seq | apply c_block | apply c_region | apply c_nil | apply c_ret | apply c_exit | apply c_skip)) | ((with_reducible apply c_cond_f); exact rfl; exact fF_) | ((with_reducible first | apply e_then | apply e_then_ret | apply e_then_exit | apply e_in | apply e_in_ret | apply e_in_same)))
  rename_i b24
  have o1 := g1.own
  have o2 := g2.own
  have o3 := g3.own
  have o4 := g4.own
  have o5 := g5.own
  have o6 := g6.own
  have hlf2 : ∀ L : List Int, (Srt.feeds2 p items L).length = L.length := fun L => by simp [Srt.feeds2]
  apply c_loop (σ := Nat × (Option Addr × Nat) × List Ent) (Fs := fun t => [(136, .int .i64 t.1), (135, .int .i64 (Srt.pass1 p s items).stackers.flatten.length), (134, .slice al (Srt.pass1 p s items).stackers.flatten.length cl), (18, .slice t.2.1.1 (Srt.feeds2 p items ((Srt.pass1 p s items).stackers.flatten.take t.1)).length t.2.1.2), (24, ptr b24), (15, .map (some bs)), (10, .map (some bm)), (6, ptr b6), (3, ptr b3), (1, .int .i64 s)])
    (Ls := fun t => t.2.2 ++ (NL ++ (N1 ++ (M1 ++ (N2 ++ (N3 ++ (N4 ++ (N5 ++ (⟨b24, Ce [.slice x1 (Srt.pass1 p s items).stackers.length y1, .slice x2 (Srt.pass1 p s items).swept.length y2, .slice x3 (Srt.pass1 p s items).over.length y3, .slice x4 (Srt.pass1 p s items).rej.length y4, .slice x5 (Srt.pass1 p s items).evs.length y5, .slice none 0 0, .slice none 0 0, .slice none 0 0, .slice none 0 0, .slice none 0 0, .slice none 0 0] 62, true⟩ :: ⟨bs, MO (seatM p.seats), true⟩ :: ⟨bm, MO (itM items), true⟩ :: ⟨b6, Ce [.slice none 0 0, .slice none 0 0, .slice none 0 0, .slice none 0 0, .slice none 0 0, .slice none 0 0, .slice none 0 0, .slice none 0 0, .slice none 0 0, .slice none 0 0, .slice none 0 0] 62, true⟩ :: ⟨b3, Ce [.slice a1 p.caps.length c1, .slice a2 p.seats.length c2, .slice a3 p.first.length c3, .slice a4 p.second.length c4] 51, true⟩ :: []))))))))) (I := fun t => t.1 ≤ (Srt.pass1 p s items).stackers.flatten.length ∧ OW 105 2 encF (.slice t.2.1.1 (Srt.feeds2 p items ((Srt.pass1 p s items).stackers.flatten.take t.1)).length t.2.1.2) (Srt.feeds2 p items ((Srt.pass1 p s items).stackers.flatten.take t.1)) t.2.2) (μ := fun t => (Srt.pass1 p s items).stackers.flatten.length - t.1) (s0 := (0, (none, 0), []))
  · exact ⟨Nat.zero_le _, OW.nil⟩
  · exact fS_
  · exact hS_
  rintro ⟨j, ⟨ad, cp⟩, N⟩ ⟨hj, hO⟩
  dsimp only at hj hO ⊢
  have hN := hO.own
  have hlen2 : (Srt.feeds2 p items ((Srt.pass1 p s items).stackers.flatten.take j)).length = j := by rw [hlf2, List.length_take]; omega
  by_cases hlt4 : j < (Srt.pass1 p s items).stackers.flatten.length
  · obtain ⟨id, hx⟩ : ∃ u, (Srt.pass1 p s items).stackers.flatten[j]? = some u := ⟨_, List.getElem?_eq_getElem hlt4⟩
    obtain ⟨_, _, eo, hco, hopo⟩ := gl.open
    cases eo
    obtain ⟨bi, si, rfl, rfl, _⟩ := hopo (by omega)
    have q1 := (Pat.flat encI_len (Srt.pass1 p s items).stackers.flatten si).one hx rfl
    obtain ⟨x, t, hxi, hxid, hit, hfi, hfd⟩ := hmem id (List.mem_of_getElem? hx)
    obtain ⟨jj, hjj⟩ := List.getElem?_of_mem hxi
    have hlook1 := itM_in hjj hxid
    obtain ⟨kk, hkk, hst⟩ := findF_some hfd
    have hlook2 := seatM_in hkk hst
    have e1 := Srt.feeds2_take p items (Srt.pass1 p s items).stackers.flatten hx
    unfold Srt.st2 at e1
    simp only [hit, hfd] at e1
    simp only [List.cons_append, List.nil_append]
    cases hse : x.second with
    | true =>
      rw [if_pos hse] at e1
      repeat' (first | ((with_reducible apply o_look_in (m := itM items) (j := jj)); infer_instance; infer_instance; exact rfl; exact rfl; exact kN_; exact itM_mk hnd; exact rfl; exact hlook1; exact rfl) | ((with_reducible apply o_look_in (m := seatM p.seats) (j := kk)); infer_instance; infer_instance; exact rfl; exact rfl; exact kN_; exact seatM_mk hnd2; exact rfl; exact hlook2; exact rfl) | ((with_reducible apply o_field1); exact rfl; exact rfl; exact rfl) | (apply o_appH (enc := encF) (ys := [(⟨id, t.second⟩ : Srt.Fd)]); infer_instance; infer_instance; infer_instance; exact rfl; exact encF_len; exact encF_one; exact rfl; exact rfl; exact rfl; assumption; exact rL_; (exact fun w hw => SV.lit [(⟨id, t.second⟩ : Srt.Fd)] encF_len hw (by exact aT_) rfl rfl (by decide)); (first | decide | (constructor <;> (try simp only [List.length_cons, List.length_nil]) <;> omega) | (constructor <;> simp <;> omega)); intro _ _ _ _) | ((with_reducible first | apply o_move | apply o_assign | apply o_faddr0); exact rfl; exact rfl) | ((with_reducible apply gdo_load); first | refine wo_load (h := ?_) | refine wo_loadAll (h := ?_) | refine wo_loadC (h := ?_) | refine wo_ldV (h := ?_)) | ((with_reducible first | apply o_lss | apply o_gtr | apply o_neq | apply o_extract); exact rfl; exact rfl; exact rfl) | ((with_reducible apply o_add); exact rfl; exact rfl; exact rfl; (constructor <;> omega)) | ((with_reducible first | apply o_alloc | apply o_makeMap0); exact rfl; intro _) | ((with_reducible apply gdo_store); first | refine wo_store1 (h := ?_) | refine wo_storeA (h := ?_)) | ((with_reducible apply gdo_build); first | refine wo_build (h := ?_) | refine wo_buildA (h := ?_)) | ((with_reducible apply gdo_buildSlice); refine wo_buildSlice (h := fun _ => ?_)) | ((with_reducible apply o_idx); infer_instance; infer_instance; exact rfl; exact rfl; (first | exact rfl | omega); exact rfl; (first | assumption | omega | decide)) | ((with_reducible first | apply c_seq | apply c_block | apply c_region | apply c_nil | apply c_ret | apply c_exit | apply c_skip)) | ((with_reducible apply c_cond_t); exact rfl; exact tT_) | ((with_reducible first | apply e_then | apply e_then_ret | apply e_then_exit | apply e_in | apply e_in_ret | apply e_in_same)))
      rename_i a' cp' N' hO'
      rw [← e1] at hO' ⊢
      refine l_again (j + 1, (a', cp'), N') ⟨by dsimp only; omega, hO'⟩ (by dsimp only; omega) ?_ ?_
      · exact fS_
      · simp only [List.cons_append, List.nil_append]; exact hS_
    | false =>
      rw [if_neg (by simp [hse])] at e1
      repeat' (first | ((with_reducible apply o_look_in (m := itM items) (j := jj)); infer_instance; infer_instance; exact rfl; exact rfl; exact kN_; exact itM_mk hnd; exact rfl; exact hlook1; exact rfl) | ((with_reducible apply o_field1); exact rfl; exact rfl; exact rfl) | (apply o_appH (enc := encF) (ys := [(⟨id, -1⟩ : Srt.Fd)]); infer_instance; infer_instance; infer_instance; exact rfl; exact encF_len; exact encF_one; exact rfl; exact rfl; exact rfl; assumption; exact rL_; (exact fun w hw => SV.lit [(⟨id, -1⟩ : Srt.Fd)] encF_len hw (by exact aT_) rfl rfl (by decide)); (first | decide | (constructor <;> (try simp only [List.length_cons, List.length_nil]) <;> omega) | (constructor <;> simp <;> omega)); intro _ _ _ _) | ((with_reducible first | apply o_move | apply o_assign | apply o_faddr0); exact rfl; exact rfl) | ((with_reducible apply gdo_load); first | refine wo_load (h := ?_) | refine wo_loadAll (h := ?_) | refine wo_loadC (h := ?_) | refine wo_ldV (h := ?_)) | ((with_reducible first | apply o_lss | apply o_gtr | apply o_neq | apply o_extract); exact rfl; exact rfl; exact rfl) | ((with_reducible apply o_add); exact rfl; exact rfl; exact rfl; (constructor <;> omega)) | ((with_reducible first | apply o_alloc | apply o_makeMap0); exact rfl; intro _) | ((with_reducible apply gdo_store); first | refine wo_store1 (h := ?_) | refine wo_storeA (h := ?_)) | ((with_reducible apply gdo_build); first | refine wo_build (h := ?_) | refine wo_buildA (h := ?_)) | ((with_reducible apply gdo_buildSlice); refine wo_buildSlice (h := fun _ => ?_)) | ((with_reducible apply o_idx); infer_instance; infer_instance; exact rfl; exact rfl; (first | exact rfl | omega); exact rfl; (first | assumption | omega | decide)) | ((with_reducible first | apply c_seq | apply c_block | apply c_region | apply c_nil | apply c_ret | apply c_exit | apply c_skip)) | ((with_reducible apply c_cond_t); exact rfl; exact tT_) | ((with_reducible apply c_cond_f); exact rfl; exact fF_) | ((with_reducible first | apply e_then | apply e_then_ret | apply e_then_exit | apply e_in | apply e_in_ret | apply e_in_same)))
      rename_i a' cp' N' hO'
      rw [← e1] at hO' ⊢
      refine l_again (j + 1, (a', cp'), N') ⟨by dsimp only; omega, hO'⟩ (by dsimp only; omega) ?_ ?_
      · exact fS_
      · simp only [List.cons_append, List.nil_append]; exact hS_
  rw [List.take_of_length_le (by omega)] at hO ⊢
  have hf2 := Srt.feeds2_lt hok items (Srt.pass1 p s items).stackers.flatten
  have hL2 : (Srt.pass2 p s items).stackers.flatten.length ≤ 2000 := by
    have := Srt.playF_flat_len (s := s) hf2
    rw [hlf2] at this
    unfold Srt.leaveF at this
    unfold Srt.pass2 Srt.leaveF
    omega
  have hpl2 : ∀ (w : World) (cv fv : Value), SV w 1 encI cv p.caps → SV w 2 encF fv (Srt.feeds2 p items (Srt.pass1 p s items).stackers.flatten) → Calls Try.prog 29 #[cv, .int .i64 s, fv] w fun e w' => ∃ v N, e = .returned v ∧ passOW (Srt.pass2 p s items) v N ∧ Rep w w' N ∧ ∀ x ∈ N, x.own = true := fun w cv fv q1 q2 => play_calls w q1 q2 hcl.2 (by omega) hf2 (by rw [hlf2]; exact Nat.le_trans hL1 (by omega))
  repeat' (first | ((first | ((with_reducible apply o_call_new (f := 29)); exact rfl) | ((with_reducible apply q_call_new (f := 29)); exact rfl; exact rfl; exact sJ_)); exact eV_; exact (fun w hw => hpl2 w _ _ (h1.keep hw (by exact aO_)) (hO.sv encF_len (by exact rL_) hw)); rintro v N'' ⟨z1, t1, z2, t2, z3, t3, z4, t4, z5, t5, tt, P1, O1, P2, P3, P4, P5, rfl, k1, k2, k3, k4, k5, k6, rfl⟩ <;> (try simp only [List.cons_append, List.nil_append, List.append_assoc])) | ((with_reducible apply o_ldV (k := 5) (l := [.slice z1 (Srt.pass2 p s items).stackers.length t1, .slice z2 (Srt.pass2 p s items).swept.length t2, .slice z3 (Srt.pass2 p s items).over.length t3, .slice z4 (Srt.pass2 p s items).rej.length t4, .slice z5 (Srt.pass2 p s items).evs.length t5])); infer_instance; infer_instance; exact rfl; exact kN_; (intro j v hj; rcases j with _ | _ | _ | _ | _ | j <;> simp_all); exact rfl; exact rfl) | ((first | ((with_reducible apply o_call_new (f := 30)); exact rfl) | ((with_reducible apply q_call_new (f := 30)); exact rfl; exact rfl; exact sJ_)); exact eV_; exact (fun w hw => leave_calls w (k1.sv encS_len (by exact rL_) hw) (k2.sl encI_len (by exact rL_) hw) (by omega)); rintro v NO ⟨ao, co, rfl, go, oo⟩ <;> (try simp only [List.cons_append, List.nil_append, List.append_assoc])) | ((with_reducible first | apply o_move | apply o_assign | apply o_faddr0); exact rfl; exact rfl) | ((with_reducible apply gdo_load); first | refine wo_load (h := ?_) | refine wo_loadAll (h := ?_) | refine wo_loadC (h := ?_) | refine wo_ldV (h := ?_)) | ((with_reducible first | apply o_lss | apply o_gtr | apply o_neq | apply o_extract); exact rfl; exact rfl; exact rfl) | ((with_reducible apply gdo_store); first | refine wo_store1 (h := ?_) | refine wo_storeA (h := ?_)) | ((with_reducible first | apply c_seq | apply c_block | apply c_region | apply c_nil | apply c_ret | apply c_exit | apply c_skip)) | ((with_reducible apply c_cond_f); exact rfl; exact fF_) | ((with_reducible first | apply e_then | apply e_then_ret | apply e_then_exit | apply e_in | apply e_in_ret | apply e_in_same)))
  have u1 := k1.own
  have u2 := k2.own
  have u3 := k3.own
  have u4 := k4.own
  have u5 := k5.own
  have u6 := k6.own
  apply r_body; apply res2 Try.results10; exact rV_; exact rV_; intro w' hw
  have hb : bothOW (Srt.pass1 p s items) (Srt.pass2 p s items) (Srt.orderF p s items) _ _ := ⟨x1, y1, x2, y2, x3, y3, x4, y4, x5, y5, z1, t1, z2, t2, z3, t3, z4, t4, z5, t5, ao, co, ss, tt, N1, M1, N2, N3, N4, N5, P1, O1, P2, P3, P4, P5, NO, rfl, g1, g2, g3, g4, g5, g6, k1, k2, k3, k4, k5, k6, go, rfl⟩
  exact ⟨_, _, rfl, .inr ⟨e0, _, rfl, hb⟩, hw.sub (by exact hS_), hb.own⟩
end Go.Proofs.Ythcoaljmgkhglaa
namespace Go.Proofs.Ythcoaljmgkhglaa
open Go Go.Sx Go.RowKit
attribute [local irreducible] WL WC WQ WR St Exit.then Exit.inBlock Exit.noGoto bodyPost roundPost beginK YR RG BM Calls B AgainD MeetD
/-! ## the results, taken apart -/
def makeψ (p : Seq.Plan) (k : Int) (v : Value) (N : List Ent) : Prop := ∃ a1 c1 a2 c2 a3 c3 a4 c4 N1 N2 N3 N4, v = .tuple #[.agg #[.slice a1 p.caps.length c1, .slice a2 p.seats.length c2, .slice a3 p.first.length c3, .slice a4 p.second.length c4], .int .i64 k] ∧
  OW 3 1 encI (.slice a1 p.caps.length c1) p.caps N1 ∧ OW 97 4 encSeat (.slice a2 p.seats.length c2) p.seats N2 ∧ OW 3 1 encI (.slice a3 p.first.length c3) p.first N3 ∧ OW 3 1 encI (.slice a4 p.second.length c4) p.second N4 ∧ N = N1 ++ (N2 ++ (N3 ++ N4)) ∧
  (∀ x ∈ N1, x.own = true) ∧ (∀ x ∈ N2, x.own = true) ∧ (∀ x ∈ N3, x.own = true) ∧ ∀ x ∈ N4, x.own = true
theorem make_calls' {vs vc : Value} {l : List Seq.Stop} {caps : List Int} {p : Seq.Plan} {k : Int} (he : Seq.makeF l caps = (p, k)) (w : World) (hs : SV w 2 encStop vs l) (hc : SV w 1 encI vc caps) : Calls Try.prog 8 #[vs, vc] w fun e w' => ∃ v N, e = .returned v ∧ makeψ p k v N ∧ Rep w w' N ∧ ∀ x ∈ N, x.own = true :=
  (make_calls w hs hc).mono fun e w' ⟨v, N, h1, h2, h3, h4⟩ => by
    rw [he] at h2
    obtain ⟨pv, rfl, ⟨a1, c1, a2, c2, a3, c3, a4, c4, N1, N2, N3, N4, rfl, g1, g2, g3, g4, rfl⟩, _⟩ := h2
    exact ⟨_, _, h1, ⟨a1, c1, a2, c2, a3, c3, a4, c4, N1, N2, N3, N4, rfl, g1, g2, g3, g4, rfl, g1.own, g2.own, g3.own, g4.own⟩, h3, h4⟩
theorem check_calls' {pv : Value} {p : Seq.Plan} {i : Nat} {k : Int} (he : Seq.checkF p = (i, k)) (w : World) (h : PV w pv p) : Calls Try.prog 9 #[pv] w fun e w' => e = .returned (.tuple #[.int .i64 i, .int .i64 k]) ∧ Below w.heap.size w w' := by
  have := check_calls w h; rw [he] at this; exact this
theorem LL.two {α : Type} {E : TypeId} {k : Nat} {enc : α → List Value} {ss : List SD} {x y : List α} {M : List Ent} (h : LL E k enc ss [x, y] M) : ∃ a1 c1 a2 c2 N1 N2, ss = [(a1, x.length, c1), (a2, y.length, c2)] ∧ M = N1 ++ N2 ∧ OW E k enc (.slice a1 x.length c1) x N1 ∧ OW E k enc (.slice a2 y.length c2) y N2 := by
  cases h with
  | cons h1 h2 =>
    cases h2 with
    | cons h3 h4 =>
      cases h4
      rename_i s1 N1 s2 N2
      obtain ⟨a1, n1, c1⟩ := s1
      obtain ⟨a2, n2, c2⟩ := s2
      obtain ⟨_, _, e1, _⟩ := h1.open
      cases e1
      obtain ⟨_, _, e2, _⟩ := h3.open
      cases e2
      exact ⟨a1, c1, a2, c2, N1, N2, rfl, by simp, h1, h3⟩
/-- A row of the call's own with something in it. -/
theorem OW.some {α : Type} {E : TypeId} {k : Nat} {enc : α → List Value} {a : Option Addr} {n cap : Nat} {xs : List α} {N : List Ent} (h : OW E k enc (.slice a n cap) xs N) (h0 : 0 < n) : ∃ b s, a = some ⟨b, 0, none⟩ ∧ N = [⟨b, Ce (xs.flatMap enc ++ s) E, true⟩] := by
  obtain ⟨_, _, e, _, hop⟩ := h.open
  cases e
  obtain ⟨b, s, h1, h2, _⟩ := hop h0
  exact ⟨b, s, h1, h2⟩
def exP : Seq.Plan := ⟨[5, 5], [⟨5, 2, 0, 0⟩, ⟨6, 2, 1, 0⟩, ⟨7, 3, 0, 1⟩], [5, 2], [4, 3]⟩
end Go.Proofs.Ythcoaljmgkhglaa
namespace Go.Proofs.Ythcoaljmgkhglaa
open Go Go.Sx Go.RowKit
attribute [local irreducible] WL WC WQ WR St Exit.then Exit.inBlock Exit.noGoto bodyPost roundPost beginK YR RG BM Calls B AgainD MeetD
/-! ## the results, taken apart -/
def runψ (m : Srt.M) (k : Int) (v : Value) (N : List Ent) : Prop := ∃ a1 c1 a2 c2 a3 c3 a4 c4 a5 c5 ss N1 M1 N2 N3 N4 N5, v = .tuple #[.agg #[.slice a1 m.stackers.length c1, .slice a2 m.swept.length c2, .slice a3 m.over.length c3, .slice a4 m.rej.length c4, .slice a5 m.evs.length c5], .int .i64 k] ∧
  OW 34 1 encS (.slice a1 m.stackers.length c1) ss N1 ∧ LL 3 1 encI ss m.stackers M1 ∧ OW 3 1 encI (.slice a2 m.swept.length c2) m.swept N2 ∧ OW 3 1 encI (.slice a3 m.over.length c3) m.over N3 ∧ OW 3 1 encI (.slice a4 m.rej.length c4) m.rej N4 ∧ OW 123 3 encE (.slice a5 m.evs.length c5) m.evs N5 ∧
  N = N1 ++ (M1 ++ (N2 ++ (N3 ++ (N4 ++ N5)))) ∧ (∀ x ∈ N1, x.own = true) ∧ (∀ x ∈ M1, x.own = true) ∧ (∀ x ∈ N2, x.own = true) ∧ (∀ x ∈ N3, x.own = true) ∧ (∀ x ∈ N4, x.own = true) ∧ ∀ x ∈ N5, x.own = true
def twoψ (m1 m2 : Srt.M) (o : List Int) (v : Value) (N : List Ent) : Prop := ∃ x1 y1 x2 y2 x3 y3 x4 y4 x5 y5 z1 t1 z2 t2 z3 t3 z4 t4 z5 t5 ao co ss tt N1 M1 N2 N3 N4 N5 P1 O1 P2 P3 P4 P5 NO,
  v = .tuple #[.agg #[.slice x1 m1.stackers.length y1, .slice x2 m1.swept.length y2, .slice x3 m1.over.length y3, .slice x4 m1.rej.length y4, .slice x5 m1.evs.length y5, .slice z1 m2.stackers.length t1, .slice z2 m2.swept.length t2, .slice z3 m2.over.length t3, .slice z4 m2.rej.length t4, .slice z5 m2.evs.length t5, .slice ao o.length co], .int .i64 0] ∧
  OW 34 1 encS (.slice x1 m1.stackers.length y1) ss N1 ∧ LL 3 1 encI ss m1.stackers M1 ∧ OW 3 1 encI (.slice x2 m1.swept.length y2) m1.swept N2 ∧ OW 3 1 encI (.slice x3 m1.over.length y3) m1.over N3 ∧ OW 3 1 encI (.slice x4 m1.rej.length y4) m1.rej N4 ∧ OW 123 3 encE (.slice x5 m1.evs.length y5) m1.evs N5 ∧
  OW 34 1 encS (.slice z1 m2.stackers.length t1) tt P1 ∧ LL 3 1 encI tt m2.stackers O1 ∧ OW 3 1 encI (.slice z2 m2.swept.length t2) m2.swept P2 ∧ OW 3 1 encI (.slice z3 m2.over.length t3) m2.over P3 ∧ OW 3 1 encI (.slice z4 m2.rej.length t4) m2.rej P4 ∧ OW 123 3 encE (.slice z5 m2.evs.length t5) m2.evs P5 ∧
  OW 3 1 encI (.slice ao o.length co) o NO ∧ N = N1 ++ (M1 ++ (N2 ++ (N3 ++ (N4 ++ (N5 ++ (P1 ++ (O1 ++ (P2 ++ (P3 ++ (P4 ++ (P5 ++ NO))))))))))) ∧
  (∀ x ∈ N1, x.own = true) ∧ (∀ x ∈ M1, x.own = true) ∧ (∀ x ∈ N2, x.own = true) ∧ (∀ x ∈ N3, x.own = true) ∧ (∀ x ∈ N4, x.own = true) ∧ (∀ x ∈ N5, x.own = true) ∧ (∀ x ∈ P1, x.own = true) ∧ (∀ x ∈ O1, x.own = true) ∧ (∀ x ∈ P2, x.own = true) ∧ (∀ x ∈ P3, x.own = true) ∧ (∀ x ∈ P4, x.own = true) ∧ (∀ x ∈ P5, x.own = true) ∧ ∀ x ∈ NO, x.own = true
theorem two_calls' {pv iv : Value} {p : Seq.Plan} {s : Int} {items : List Srt.It} (he : Srt.twoE p s items = 0) (w : World) (hp : PV w pv p) (hi : SV w 4 encIt iv items) : Calls Try.prog 10 #[pv, .int .i64 s, iv] w fun e w' => ∃ v N, e = .returned v ∧ twoψ (Srt.pass1 p s items) (Srt.pass2 p s items) (Srt.orderF p s items) v N ∧ Rep w w' N ∧ ∀ x ∈ N, x.own = true :=
  (two_calls w hp hi).mono fun e w' ⟨v, N, h1, h2, h3, h4⟩ => by
    rcases h2 with ⟨h, _⟩ | ⟨_, bv, rfl, hb⟩
    · exact absurd he h
    · obtain ⟨x1, y1, x2, y2, x3, y3, x4, y4, x5, y5, z1, t1, z2, t2, z3, t3, z4, t4, z5, t5, ao, co, ss, tt, N1, M1, N2, N3, N4, N5, P1, O1, P2, P3, P4, P5, NO, rfl, g1, g2, g3, g4, g5, g6, k1, k2, k3, k4, k5, k6, k7, rfl⟩ := hb
      exact ⟨_, _, h1, ⟨x1, y1, x2, y2, x3, y3, x4, y4, x5, y5, z1, t1, z2, t2, z3, t3, z4, t4, z5, t5, ao, co, ss, tt, N1, M1, N2, N3, N4, N5, P1, O1, P2, P3, P4, P5, NO, rfl, g1, g2, g3, g4, g5, g6, k1, k2, k3, k4, k5, k6, k7, rfl, g1.own, g2.own, g3.own, g4.own, g5.own, g6.own, k1.own, k2.own, k3.own, k4.own, k5.own, k6.own, k7.own⟩, h3, h4⟩
/-! ## the examples -/
def exF : List Srt.Fd := [⟨5, 0⟩, ⟨6, 0⟩, ⟨7, 1⟩, ⟨8, 0⟩, ⟨9, 1⟩, ⟨4, -1⟩]
def exE : List Srt.Ev := [⟨1, 5, 0⟩, ⟨1, 6, 0⟩, ⟨1, 7, 1⟩, ⟨2, 8, 0⟩, ⟨1, 8, 0⟩, ⟨3, 9, 1⟩, ⟨4, 4, -1⟩]
def exM : Srt.M := ⟨[[5, 6, 8], [7]], [1, 0], [9], [4], exE, [1, 1], 0⟩
def exI : List Srt.It := [⟨1, 7, true, true⟩, ⟨2, 6, true, true⟩, ⟨3, 5, true, true⟩, ⟨4, 7, true, true⟩, ⟨5, 6, true, true⟩]
def exJ : List Srt.It := [⟨1, 7, true, true⟩, ⟨2, 6, true, true⟩, ⟨3, 5, true, true⟩, ⟨4, 7, true, false⟩, ⟨5, 6, true, true⟩]
end Go.Proofs.Ythcoaljmgkhglaa
namespace Go.Sx
section
variable {r : Option Nat} {P : Program} {n : Nat} {D : List Deferred} {w0 : World} {F : List (Nat × Value)} {L : List Ent} {Q : Exit → Act → World → Prop} {ops : Array Oper}
variable {d : Tmp} {ty : TypeId} {pos : String} {af : Array Edge} {rest : List Oper}
theorem o_minV {x y : Operand} {m l v : Int} {ats : Array TypeId} (hx : ev F x = some (.int .i64 m)) (hy : ev F y = some (.int .i64 l)) (e : (if l < m then l else m) = v) (hd : Nat.ble (d + 1) n = true)
    (h : St n D w0 ((d, .int .i64 v) :: F) L (WL r P ops Q rest)) : St n D w0 F L (WL r P ops Q (⟨some d, .call ⟨.builtin .min, #[x, y], ats⟩, ty, pos, af, none⟩ :: rest)) := by
  subst e; exact o_min2 hx hy hd h
theorem o_maxV {x y : Operand} {m l v : Int} {ats : Array TypeId} (hx : ev F x = some (.int .i64 m)) (hy : ev F y = some (.int .i64 l)) (e : (if m < l then l else m) = v) (hd : Nat.ble (d + 1) n = true)
    (h : St n D w0 ((d, .int .i64 v) :: F) L (WL r P ops Q rest)) : St n D w0 F L (WL r P ops Q (⟨some d, .call ⟨.builtin .max, #[x, y], ats⟩, ty, pos, af, none⟩ :: rest)) := by
  subst e; exact o_max2 hx hy hd h
end
theorem LL.lens {α : Type} {E : TypeId} {k : Nat} {enc : α → List Value} {ss : List SD} {xss : List (List α)} {M : List Ent} (h : LL E k enc ss xss M) : ∀ (i : Nat) (s : SD) (xs : List α), ss[i]? = some s → xss[i]? = some xs → s.2.1 = xs.length := by
  induction h with
  | nil => intro i s xs h1 _; simp at h1
  | cons h1 h2 ih =>
    intro i s xs hs hx
    cases i with
    | zero =>
      simp only [List.getElem?_cons_zero, Option.some.injEq] at hs hx
      subst hs; subst hx
      obtain ⟨a, c, e, _⟩ := h1.open
      unfold sdV at e
      injection e
    | succ i => exact ih i s xs (by simpa using hs) (by simpa using hx)
end Go.Sx
namespace Go.Sx.Ref
/-- The points of a route. -/
structure Road (ps S : List Pt) : Prop where
  along : Along S
  len : S.length ≤ 60
  id : ∀ p ∈ S, 1 ≤ p.id ∧ p.id ≤ 999999
  seq : ∀ p ∈ S, 3000 ≤ p.seq ∧ p.seq ≤ 100000
  find : ∀ p ∈ S, (ps.find? fun q => decide (q.id = p.id)) = some p
theorem find_id {ps : List Pt} (h : Along ps) {p : Pt} (hp : p ∈ ps) : (ps.find? fun q => decide (q.id = p.id)) = some p := by
  induction ps with
  | nil => cases hp
  | cons a l ih =>
    obtain ⟨h1, h2⟩ := List.pairwise_cons.1 h
    rw [List.find?_cons]
    rcases List.mem_cons.1 hp with rfl | hp
    · simp
    · have := h1 p hp
      rw [show decide (a.id = p.id) = false from decide_eq_false (by omega)]
      exact ih h2 hp
theorem PtsOk.road {ps : List Pt} (h : PtsOk 60 ps) (rs : List Rg) (route : Int) : Road ps (stopsOf rs ps route) := by
  have hsub : ∀ p ∈ stopsOf rs ps route, p ∈ ps := fun p hp => (List.mem_filter.1 hp).1
  have h1 : (stopsOf rs ps route).length ≤ ps.length := List.length_filter_le _ _
  have h2 := h.len
  exact ⟨h.along.stops rs route, by omega, fun p hp => by have := h.id p (hsub p hp); omega, fun p hp => by have := h.seq p (hsub p hp); omega, fun p hp => find_id h.along (hsub p hp)⟩
theorem Road.nodup {ps S : List Pt} (h : Road ps S) : (S.map Pt.id).Nodup := by
  rw [List.Nodup, List.pairwise_map]
  exact h.along.imp fun hab => by omega
end Go.Sx.Ref
namespace Go.Proofs.Ythcoaljmgkhglaa
open Go Go.Sx Go.RowKit
attribute [local irreducible] WL WC WQ WR WB WF QB St Exit.then Exit.inBlock Exit.noGoto bodyPost roundPost beginK YR RG BM Calls B AgainD MeetD
/-! ## sorting -/
def sgP : Seq.Plan := ⟨[1], [⟨1, 1, 0, 0⟩], [1], [1]⟩
def sgI : List Srt.It := [⟨1, 1, true, true⟩]
theorem sg_make : Seq.makeF [⟨1, 1⟩] [1] = (sgP, 0) := by decide +kernel
theorem sg_two : Srt.twoE sgP 0 sgI = 0 := by decide +kernel
theorem sg_ord : (Srt.orderF sgP 0 sgI).length = 1 := by decide +kernel
set_option maxRecDepth 100000 in
theorem sorting_calls (w : World) : Calls Try.prog 5 #[] w fun e w' => e = .returned (.bool true) ∧ Below w.heap.size w w' := by
  have hso := sg_ord
  generalize hp : sgP = p at hso
  generalize hi : sgI = items at hso
  have hmk : Seq.makeF [⟨1, 1⟩] [1] = (p, 0) := by rw [← hp]; exact sg_make
  have htw : Srt.twoE p 0 items = 0 := by rw [← hp, ← hi]; exact sg_two
  refine f_enter0 Try.func5 rfl Try.ntmps5 rfl (Rep.start w) ?_
  repeat' (first | ((first | ((with_reducible apply o_call_new (f := 8)); exact rfl) | ((with_reducible apply q_call_new (f := 8)); exact rfl; exact rfl; exact sJ_)); exact eV_; exact (fun w hw => make_calls' hmk w (SV.lit [(⟨1, 1⟩ : Seq.Stop)] encStop_len hw (by exact aT_) rfl rfl (by decide)) (SV.lit [(1 : Int)] encI_len hw (by exact aT_) rfl rfl (by decide))); rintro v N ⟨d1, f1, d2, f2, d3, f3, d4, f4, G1, G2, G3, G4, rfl, e1, e2, e3, e4, rfl, r1, r2, r3, r4⟩ <;> (try simp only [List.cons_append, List.nil_append, List.append_assoc])) | ((first | ((with_reducible apply o_call_new (f := 10)); exact rfl) | ((with_reducible apply q_call_new (f := 10)); exact rfl; exact rfl; exact sJ_)); exact eV_; exact (fun w hw => two_calls' htw w (PV.mk (e1.sv encI_len (by exact rL_) hw) (e2.sv encSeat_len (by exact rL_) hw) (e3.sv encI_len (by exact rL_) hw) (e4.sv encI_len (by exact rL_) hw)) (SV.lit items encIt_len hw (by exact aT_) (by rw [← hi]; rfl) (by rw [← hi]; rfl) (by decide))); rintro v N ⟨x1, y1, x2, y2, x3, y3, x4, y4, x5, y5, z1, t1, z2, t2, z3, t3, z4, t4, z5, t5, ao, co, ss, tt, N1, M1, N2, N3, N4, N5, P1, O1, P2, P3, P4, P5, NO, rfl, g1, g2, g3, g4, g5, g6, k1, k2, k3, k4, k5, k6, k7, rfl, p1, p2, p3, p4, p5, p6, q1, q2, q3, q4, q5, q6, q7⟩ <;> (try simp only [List.cons_append, List.nil_append, List.append_assoc])) | ((with_reducible first | apply o_move | apply o_assign | apply o_faddr0); exact rfl; exact rfl) | ((with_reducible apply gdo_load); first | refine wo_load (h := ?_) | refine wo_loadAll (h := ?_) | refine wo_loadC (h := ?_) | refine wo_ldV (h := ?_)) | ((with_reducible first | apply o_eql | apply o_extract); exact rfl; exact rfl; exact rfl) | ((with_reducible apply o_pick_t); exact rfl; exact tT_; exact rfl; exact rfl) | ((with_reducible apply o_alloc); exact rfl; intro _) | ((with_reducible apply gdo_store); first | refine wo_store1 (h := ?_) | refine wo_storeA (h := ?_)) | ((with_reducible apply gdo_build); first | refine wo_build (h := ?_) | refine wo_buildA (h := ?_)) | ((with_reducible apply o_len); infer_instance; exact rfl; exact rfl) | ((with_reducible apply gdo_buildSlice); refine wo_buildSlice (h := fun _ => ?_)) | ((with_reducible first | apply g_run); exact rfl; exact gG_) | ((with_reducible first | apply c_seq | apply c_block | apply c_region | apply c_nil | apply c_ret | apply c_exit | apply c_skip)) | ((with_reducible first | apply e_then | apply e_then_ret | apply e_then_exit | apply e_in | apply e_in_ret | apply e_in_same)))
  apply r_body; apply res1 Try.results5; exact rV_; intro w' hw
  have hd : decide (((Srt.orderF p 0 items).length : Int) = 1) = true := decide_eq_true (by omega)
  exact ⟨by rw [hd], hw.below (show AO _ from by exact aO_)⟩
theorem built12_calls' {v2 v3 : Value} {tw st : Int} {cuts : List UInt8} {pts : List UInt16} (w : World) (htw : 0 ≤ tw ∧ tw ≤ 255) (hst : 0 ≤ st ∧ st ≤ 255) (hcuts : SV w 1 encB v2 cuts) (hpts : SV w 1 encH v3 pts) :
    Calls Try.prog 4 #[.agg #[.int .u8 tw, .int .u8 st, v2, v3]] w fun e w' => ∃ v N, e = .returned v ∧ (∃ v0 v1 a2 c2 a3 c3 rs ps, v = .agg #[v0, v1, .slice a2 rs.length c2, .slice a3 ps.length c3] ∧ (v0.oneCell' = true ∧ v1.oneCell' = true) ∧ Ref.PtsOk 60 ps ∧ rs.length ≤ 100000 ∧ Shw N (fun w => SV w 7 encRg (.slice a2 rs.length c2) rs ∧ SV w 8 encPt (.slice a3 ps.length c3) ps) ∧ ∀ x ∈ N, x.own = true) ∧ Rep w w' N ∧ ∀ x ∈ N, x.own = true :=
  (built12_calls w htw hst hcuts hpts).mono fun e w' ⟨v, N, h1, h2, h3, h4⟩ => by
    obtain ⟨v0, v1, v2, v3, rs, ps, rfl, hv, hok, hrl, hS⟩ := h2
    obtain ⟨s2, s3⟩ := hS.all h3
    obtain ⟨a2, c2, rfl, _⟩ := s2.open
    obtain ⟨a3, c3, rfl, _⟩ := s3.open
    exact ⟨_, N, h1, ⟨v0, v1, a2, c2, a3, c3, rs, ps, rfl, hv, hok, hrl, hS, h4⟩, h3, h4⟩
end Go.Proofs.Ythcoaljmgkhglaa
