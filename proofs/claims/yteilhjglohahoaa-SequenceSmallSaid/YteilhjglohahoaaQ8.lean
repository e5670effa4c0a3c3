/-
  A part of the proofs of this seat: what some of the program's functions compute, shown by walks through their code. Conditions: the hypotheses that each theorem names. (Its blocks of tactics were laid by a small program.)
-/
import Derived.Test.YteilhjglohahoaaQ7
set_option linter.unusedSimpArgs false
set_option linter.unusedVariables false
namespace Go.Proofs.Yteilhjglohahoaa
open Go Go.Sx Go.RowKit
section
variable {r : Option Nat} {P : Program} {n : Nat} {D : List Deferred} {w0 : World} {F : List (Nat × Value)} {L : List Ent} {Q : Exit → Act → World → Prop} {ops : Array Oper}
variable {d : Tmp} {ty : TypeId} {pos : String} {af : Array Edge} {rest : List Oper}
/-- A callee that is a value, and makes memory of its own. -/
theorem o_call_newV {f : FuncId} {fn : Func} [TC P f fn] {x : Operand} {caps : Array Value} {xs : List Operand} {vs : List Value} {ats : Array TypeId} {φ : Value → List Ent → Prop} (hx : ev F x = some (.func (.func f) #[] caps)) (hd : Nat.ble (d + 1) n = true) (hxs : Evs F xs vs)
    (hc : ∀ w, Rep w0 w L → Calls P f (vs.toArray ++ caps) w fun e w' => ∃ v N, e = .returned v ∧ φ v N ∧ Rep w w' N ∧ ∀ x ∈ N, x.own = true)
    (h : ∀ v N, φ v N → St n D w0 ((d, v) :: F) (N ++ L) (WL r P ops Q rest)) :
    St n D w0 F L (WL r P ops Q (⟨some d, .call ⟨.value x, xs.toArray, ats⟩, ty, pos, af, none⟩ :: rest)) :=
  o_call (x := x) (caps := caps) (Φ := fun w u w' => ∃ N, φ u N ∧ Rep w w' N ∧ ∀ x ∈ N, x.own = true) hx hd hxs (fun w hw => by
    refine (hc w hw).mono ?_
    rintro e w' ⟨v, N, rfl, hφ, hN, ho⟩
    exact ⟨v, rfl, N, hφ, hN, ho⟩) (fun w u hw a w' hΦ ha => by
      obtain ⟨N, hφ, hN, ho⟩ := hΦ
      exact h u N hφ a w' ha (hw.beside hN ho))
end
attribute [local irreducible] WL WC WQ WR St Exit.then Exit.inBlock Exit.noGoto bodyPost roundPost beginK YR RG BM Calls B AgainD MeetD
/-! ## Sort -/
def runOW (r : Seq.Run) (v : Value) (N : List Ent) : Prop := ∃ a1 c1 a2 c2 a3 c3 ss1 ss2 N1 M1 N2 M2 N3, v = .agg #[.slice a1 r.first.length c1, .slice a2 r.second.length c2, .slice a3 r.order.length c3] ∧
  OW 24 1 encS (.slice a1 r.first.length c1) ss1 N1 ∧ LL 3 1 encN ss1 r.first M1 ∧ OW 24 1 encS (.slice a2 r.second.length c2) ss2 N2 ∧ LL 3 1 encN ss2 r.second M2 ∧ OW 3 1 encN (.slice a3 r.order.length c3) r.order N3 ∧ N = N1 ++ (M1 ++ (N2 ++ (M2 ++ N3)))
theorem runOW.own {r : Seq.Run} {v : Value} {N : List Ent} (h : runOW r v N) : ∀ x ∈ N, x.own = true := by
  obtain ⟨a1, c1, a2, c2, a3, c3, ss1, ss2, N1, M1, N2, M2, N3, rfl, h1, h2, h3, h4, h5, rfl⟩ := h
  intro x hx
  simp only [List.mem_append] at hx
  rcases hx with hx | hx | hx | hx | hx
  · exact h1.own x hx
  · exact h2.own x hx
  · exact h3.own x hx
  · exact h4.own x hx
  · exact h5.own x hx
def sortφ (r : Seq.Run × Int) (v : Value) (N : List Ent) : Prop := ∃ rv, v = .tuple #[rv, .int .i64 r.2] ∧ runOW r.1 rv N ∧ ∀ x ∈ N, x.own = true
theorem sortφ_zero (k : Int) : sortφ (.zero, k) (.tuple #[.agg #[.slice none 0 0, .slice none 0 0, .slice none 0 0], .int .i64 k]) [] :=
  ⟨_, rfl, ⟨none, 0, none, 0, none, 0, [], [], [], [], [], [], [], rfl, OW.nil, LL.nil, OW.nil, LL.nil, OW.nil, rfl⟩, by simp⟩
theorem sortφ_mk {x : Seq.Run} {a1 a2 a3 : Option Addr} {n1 n2 n3 c1 c2 c3 : Nat} {ss1 ss2 : List SD} {N1 M1 N2 M2 N3 : List Ent} (e1 : x.first.length = n1) (e2 : x.second.length = n2) (e3 : x.order.length = n3)
    (h1 : OW 24 1 encS (.slice a1 n1 c1) ss1 N1) (h2 : LL 3 1 encN ss1 x.first M1) (h3 : OW 24 1 encS (.slice a2 n2 c2) ss2 N2) (h4 : LL 3 1 encN ss2 x.second M2) (h5 : OW 3 1 encN (.slice a3 n3 c3) x.order N3) (k : Int) :
    sortφ (x, k) (.tuple #[.agg #[.slice a1 n1 c1, .slice a2 n2 c2, .slice a3 n3 c3], .int .i64 k]) (N1 ++ (M1 ++ (N2 ++ (M2 ++ N3)))) := by
  subst e1 e2 e3
  have : runOW x (.agg #[.slice a1 x.first.length c1, .slice a2 x.second.length c2, .slice a3 x.order.length c3]) (N1 ++ (M1 ++ (N2 ++ (M2 ++ N3)))) := ⟨a1, c1, a2, c2, a3, c3, ss1, ss2, N1, M1, N2, M2, N3, rfl, h1, h2, h3, h4, h5, rfl⟩
  exact ⟨_, rfl, this, this.own⟩
theorem ow_rows {b n : Nat} {ss : List SD} (h : ss.length = n) (hn : n ≤ 1000) : OW 24 1 encS (.slice (some ⟨b, 0, none⟩) n n) ss [⟨b, Ce (ss.flatMap encS ++ []) 24, true⟩] := by
  subst h
  exact OW.row (by rw [List.append_nil, flat_len encS_len]) ⟨Nat.le_refl _, by omega⟩
set_option maxHeartbeats 4000000 in
theorem sort_calls {pv iv : Value} {p : Seq.Plan} {items : List Int} (w : World) (hp : PV w pv p) (hi : SV w 1 encI iv items) : Calls Try.prog 23 #[pv, iv] w fun e w' => ∃ v N, e = .returned v ∧ sortφ (Seq.sortF p items) v N ∧ Rep w w' N ∧ ∀ x ∈ N, x.own = true := by
  have hp0 := hp
  obtain ⟨a1, c1, a2, c2, a3, c3, a4, c4, rfl, h1, h2, h3, h4⟩ := hp.open
  obtain ⟨a5, c5, rfl, hc5, hopi⟩ := hi.open
  obtain ⟨caps, l, fs, ss⟩ := p
  dsimp only at h1 h2 h3 h4 hp0 ⊢
  obtain ⟨_, _, e2, hc2, hop2⟩ := h2.open
  cases e2
  have hchk := fun (w' : World) (L : List Ent) (hw : Rep w w' L) (ho : AO L) => check_calls w' (hp0.keep hw ho)
  by_cases hz : (Seq.checkF ⟨caps, l, fs, ss⟩).2 ≠ 0
  · have e : Seq.sortF ⟨caps, l, fs, ss⟩ items = (.zero, (Seq.checkF ⟨caps, l, fs, ss⟩).2) := by unfold Seq.sortF; rw [if_pos hz]
    rw [e]
    generalize Seq.checkF ⟨caps, l, fs, ss⟩ = ck at hz hchk ⊢
    obtain ⟨i, k⟩ := ck
    dsimp only at hz hchk ⊢
    unfold errV at hchk
    refine f_enter2 Try.func23 rfl Try.ntmps23 rfl (Rep.start w) ?_
    repeat' (first | ((first | ((with_reducible apply o_call_pure (f := 25)); exact rfl) | ((with_reducible apply q_call_pure (f := 25)); exact rfl; kernel_rfl; exact rfl; (focus (repeat (first | (apply SubJ.keep; (decide +kernel)) | apply SubJ.drop | exact SubJ.nil))))); (repeat (first | exact Evs.nil | apply Evs.cons rfl)); exact (fun w hw => hchk w _ hw (by ((focus (repeat (first | exact AO.nil | apply AO.cons | (apply AO.app; assumption)))) <;> done)))) | ((with_reducible first | apply o_move | apply o_assign | apply o_faddr0); exact rfl; exact rfl) | ((with_reducible apply gdo_load); first | refine wo_load (h := ?_) | refine wo_loadAll (h := ?_) | refine wo_loadC (h := ?_) | refine wo_ldV (h := ?_) | refine wo_ldF (h := ?_)) | ((with_reducible first | apply o_lss | apply o_gtr | apply o_neq | apply o_extract); exact rfl; exact rfl; exact rfl) | ((with_reducible first | apply o_alloc | apply o_makeMap0); exact rfl; intro _) | ((with_reducible apply o_box); exact rfl; exact rfl; exact rfl; intro _) | ((with_reducible apply gdo_store); first | refine wo_store1 (h := ?_) | refine wo_storeA (h := ?_)) | ((with_reducible apply gdo_build); first | refine wo_build (h := ?_) | refine wo_buildA (h := ?_)) | ((with_reducible first | apply c_seq | apply c_block | apply c_region | apply c_nil | apply c_ret | apply c_exit | apply c_unroll | apply c_skip)) | ((with_reducible apply c_cond_t); exact rfl; exact tT_) | ((with_reducible first | apply e_then | apply e_then_ret | apply e_then_exit | apply e_in | apply e_in_ret | apply e_in_same)))
    apply r_body; apply res2 Try.results23; exact rV_; exact rV_; intro w' hw
    exact ⟨_, [], rfl, sortφ_zero _, hw.sub (by ((try dsimp only); repeat (first | exact HSub.nil rfl | (apply HSub.take; (repeat (first | exact Rem.hd | apply Rem.tl | apply Rem.right))) | exact HSub.same | (apply HSub.takeL; ((focus (repeat (first | exact RemL.hd | exact RemL.all | exact RemL.nil | apply RemL.tl | apply RemL.right))) <;> done)) | apply HSub.drop | (apply HSub.takeL; (focus ((repeat (first | exact RemL.hd | exact RemL.all | exact RemL.nil | apply RemL.tl | apply RemL.right))))) | (apply HSub.takeA; (first | exact RemL.hd | exact RemL.all); ((focus (repeat (first | exact AO.nil | apply AO.cons | (apply AO.app; assumption)))) <;> done)) | (apply HSub.dropL; assumption) | (apply HSub.takeA; (focus ((repeat (first | exact RemL.hd | exact RemL.all | exact RemL.nil | apply RemL.tl | apply RemL.right)))); ((focus (repeat (first | exact AO.nil | apply AO.cons | (apply AO.app; assumption)))) <;> done)) | (apply HSub.nilA; ((focus (repeat (first | exact AO.nil | apply AO.cons | (apply AO.app; assumption)))) <;> done))))), by simp⟩
  have hz0 : (Seq.checkF ⟨caps, l, fs, ss⟩).2 = 0 := by omega
  obtain ⟨hz1, hm, hl1, hnd, hrange⟩ := checkF_ok hz0
  dsimp only at hm hl1 hnd hrange
  unfold Seq.machineOk at hm
  rw [hz1] at hchk
  unfold errV at hchk
  dsimp only at hchk
  by_cases hbig : 2000 < items.length
  · have e : Seq.sortF ⟨caps, l, fs, ss⟩ items = (.zero, 5) := by unfold Seq.sortF; rw [if_neg hz, if_pos hbig]
    rw [e]
    refine f_enter2 Try.func23 rfl Try.ntmps23 rfl (Rep.start w) ?_
    repeat' (first | ((first | ((with_reducible apply o_call_pure (f := 25)); exact rfl) | ((with_reducible apply q_call_pure (f := 25)); exact rfl; kernel_rfl; exact rfl; (focus (repeat (first | (apply SubJ.keep; (decide +kernel)) | apply SubJ.drop | exact SubJ.nil))))); (repeat (first | exact Evs.nil | apply Evs.cons rfl)); exact (fun w hw => hchk w _ hw (by ((focus (repeat (first | exact AO.nil | apply AO.cons | (apply AO.app; assumption)))) <;> done)))) | ((with_reducible first | apply o_move | apply o_assign | apply o_faddr0); exact rfl; exact rfl) | ((with_reducible apply gdo_load); first | refine wo_load (h := ?_) | refine wo_loadAll (h := ?_) | refine wo_loadC (h := ?_) | refine wo_ldV (h := ?_) | refine wo_ldF (h := ?_)) | ((with_reducible first | apply o_lss | apply o_gtr | apply o_neq | apply o_extract); exact rfl; exact rfl; exact rfl) | ((with_reducible first | apply o_alloc | apply o_makeMap0); exact rfl; intro _) | ((with_reducible apply o_box); exact rfl; exact rfl; exact rfl; intro _) | ((with_reducible apply gdo_store); first | refine wo_store1 (h := ?_) | refine wo_storeA (h := ?_)) | ((with_reducible apply gdo_build); first | refine wo_build (h := ?_) | refine wo_buildA (h := ?_)) | ((with_reducible apply o_len); infer_instance; exact rfl; exact rfl) | ((with_reducible first | apply c_seq | apply c_block | apply c_region | apply c_nil | apply c_ret | apply c_exit | apply c_unroll | apply c_skip)) | ((with_reducible apply c_cond_t); exact rfl; exact tT_) | ((with_reducible apply c_cond_f); exact rfl; exact fF_) | ((with_reducible first | apply e_then | apply e_then_ret | apply e_then_exit | apply e_in | apply e_in_ret | apply e_in_same)))
    apply r_body; apply res2 Try.results23; exact rV_; exact rV_; intro w' hw
    exact ⟨_, [], rfl, sortφ_zero _, hw.sub (by ((try dsimp only); repeat (first | exact HSub.nil rfl | (apply HSub.take; (repeat (first | exact Rem.hd | apply Rem.tl | apply Rem.right))) | exact HSub.same | (apply HSub.takeL; ((focus (repeat (first | exact RemL.hd | exact RemL.all | exact RemL.nil | apply RemL.tl | apply RemL.right))) <;> done)) | apply HSub.drop | (apply HSub.takeL; (focus ((repeat (first | exact RemL.hd | exact RemL.all | exact RemL.nil | apply RemL.tl | apply RemL.right))))) | (apply HSub.takeA; (first | exact RemL.hd | exact RemL.all); ((focus (repeat (first | exact AO.nil | apply AO.cons | (apply AO.app; assumption)))) <;> done)) | (apply HSub.dropL; assumption) | (apply HSub.takeA; (focus ((repeat (first | exact RemL.hd | exact RemL.all | exact RemL.nil | apply RemL.tl | apply RemL.right)))); ((focus (repeat (first | exact AO.nil | apply AO.cons | (apply AO.app; assumption)))) <;> done)) | (apply HSub.nilA; ((focus (repeat (first | exact AO.nil | apply AO.cons | (apply AO.app; assumption)))) <;> done))))), by simp⟩
  refine f_enter2 Try.func23 rfl Try.ntmps23 rfl (Rep.start w) ?_
  repeat' (first | ((first | ((with_reducible apply o_call_pure (f := 25)); exact rfl) | ((with_reducible apply q_call_pure (f := 25)); exact rfl; kernel_rfl; exact rfl; (focus (repeat (first | (apply SubJ.keep; (decide +kernel)) | apply SubJ.drop | exact SubJ.nil))))); (repeat (first | exact Evs.nil | apply Evs.cons rfl)); exact (fun w hw => hchk w _ hw (by ((focus (repeat (first | exact AO.nil | apply AO.cons | (apply AO.app; assumption)))) <;> done)))) | ((with_reducible first | apply o_move | apply o_assign | apply o_faddr0); exact rfl; exact rfl) | ((with_reducible apply gdo_load); first | refine wo_load (h := ?_) | refine wo_loadAll (h := ?_) | refine wo_loadC (h := ?_) | refine wo_ldV (h := ?_) | refine wo_ldF (h := ?_)) | ((with_reducible first | apply o_lss | apply o_gtr | apply o_neq | apply o_extract); exact rfl; exact rfl; exact rfl) | ((with_reducible first | apply o_alloc | apply o_makeMap0); exact rfl; intro _) | ((with_reducible apply o_box); exact rfl; exact rfl; exact rfl; intro _) | ((with_reducible apply gdo_store); first | refine wo_store1 (h := ?_) | refine wo_storeA (h := ?_)) | ((with_reducible apply o_len); infer_instance; exact rfl; exact rfl) | ((with_reducible apply o_makeMap); infer_instance; exact rfl; exact rfl; intro _) | ((with_reducible first | apply c_seq | apply c_block | apply c_region | apply c_nil | apply c_ret | apply c_exit | apply c_unroll | apply c_skip)) | ((with_reducible apply c_cond_f); exact rfl; exact fF_) | ((with_reducible first | apply e_then | apply e_then_ret | apply e_then_exit | apply e_in | apply e_in_ret | apply e_in_same)))
  rename_i bp bi b4 bm bx
  apply c_loop (σ := Nat) (Fs := fun i => [(36, .int .i64 i), (35, .int .i64 l.length), (34, .slice a2 l.length c2), (8, ptr bx), (4, ptr b4), (3, ptr bi), (2, ptr bp)])
    (Ls := fun i => [⟨bm, MO (seatM (l.take i)), true⟩, ⟨bx, Ce [.map (some bm)] 91, true⟩, ⟨b4, Ce [.slice none 0 0, .slice none 0 0, .slice none 0 0] 50, true⟩, ⟨bi, Ce [.slice a5 items.length c5] 24, true⟩, ⟨bp, Ce [.slice a1 caps.length c1, .slice a2 l.length c2, .slice a3 fs.length c3, .slice a4 ss.length c4] 38, true⟩])
    (I := fun i => i ≤ l.length) (μ := fun i => l.length - i) (s0 := 0)
  · exact Nat.zero_le _
  · (repeat (first | exact FSub.nil | refine FSub.cons rfl ?_))
  · ((try dsimp only); repeat (first | exact HSub.nil rfl | (apply HSub.take; (repeat (first | exact Rem.hd | apply Rem.tl | apply Rem.right))) | exact HSub.same | (apply HSub.takeL; ((focus (repeat (first | exact RemL.hd | exact RemL.all | exact RemL.nil | apply RemL.tl | apply RemL.right))) <;> done)) | apply HSub.drop | (apply HSub.takeL; (focus ((repeat (first | exact RemL.hd | exact RemL.all | exact RemL.nil | apply RemL.tl | apply RemL.right))))) | (apply HSub.takeA; (first | exact RemL.hd | exact RemL.all); ((focus (repeat (first | exact AO.nil | apply AO.cons | (apply AO.app; assumption)))) <;> done)) | (apply HSub.dropL; assumption) | (apply HSub.takeA; (focus ((repeat (first | exact RemL.hd | exact RemL.all | exact RemL.nil | apply RemL.tl | apply RemL.right)))); ((focus (repeat (first | exact AO.nil | apply AO.cons | (apply AO.app; assumption)))) <;> done)) | (apply HSub.nilA; ((focus (repeat (first | exact AO.nil | apply AO.cons | (apply AO.app; assumption)))) <;> done))))
  intro i hil
  have hil : i ≤ l.length := hil
  by_cases hlt : i < l.length
  · obtain ⟨s, hx⟩ : ∃ s, l[i]? = some s := ⟨_, List.getElem?_eq_getElem hlt⟩
    obtain ⟨b, off, cc, e, fz, rfl, hk, hpt⟩ := hop2 (by omega)
    have g1 := hpt.get hx
    have e1 : seatM (l.take (i + 1)) = seatM (l.take i) ++ [(.int .i64 s.stop, seatV s)] := by rw [take_snoc hx]; simp [seatM]
    have e2 : (l.map Seq.Seat.stop) = (l.take i).map Seq.Seat.stop ++ s.stop :: (l.drop (i + 1)).map Seq.Seat.stop := by
      conv => lhs; rw [← List.take_append_drop i l, drop_at hx]
      simp
    have hnd1 : ((l.take i).map Seq.Seat.stop).Nodup := by rw [e2] at hnd; exact (List.nodup_append.1 hnd).1
    have hout : ∀ p ∈ seatM (l.take i), p.1 ≠ .int .i64 s.stop := by
      intro p hp' e3
      obtain ⟨q, hq, rfl⟩ := List.mem_map.1 hp'
      simp only [Value.int.injEq, true_and] at e3
      rw [e2] at hnd
      exact (List.nodup_append.1 hnd).2.2 _ (List.mem_map.2 ⟨q, hq, rfl⟩) _ List.mem_cons_self e3
    repeat' (first | ((with_reducible apply o_mapNew (m := seatM (l.take i))); infer_instance; infer_instance; exact rfl; exact rfl; exact rfl; exact seatM_mk hnd1; exact rfl; exact hout; (repeat (first | exact Upd.hd | apply Upd.tl | apply Upd.right))) | ((with_reducible first | apply o_move | apply o_assign | apply o_faddr0); exact rfl; exact rfl) | ((with_reducible apply gdo_load); first | refine wo_load (h := ?_) | refine wo_loadAll (h := ?_) | refine wo_loadC (h := ?_) | refine wo_ldV (h := ?_) | refine wo_ldF (h := ?_)) | ((with_reducible first | apply o_lss | apply o_gtr | apply o_neq | apply o_extract); exact rfl; exact rfl; exact rfl) | ((with_reducible apply o_add); exact rfl; exact rfl; exact rfl; (constructor <;> omega)) | ((with_reducible first | apply o_alloc | apply o_makeMap0); exact rfl; intro _) | ((with_reducible apply gdo_store); first | refine wo_store1 (h := ?_) | refine wo_storeA (h := ?_)) | ((with_reducible apply o_idx); infer_instance; infer_instance; exact rfl; exact rfl; (first | exact rfl | omega); exact rfl; (first | assumption | omega | decide)) | ((with_reducible first | apply c_seq | apply c_block | apply c_region | apply c_nil | apply c_ret | apply c_exit | apply c_unroll | apply c_skip)) | ((with_reducible apply c_cond_t); exact rfl; exact tT_) | ((with_reducible first | apply e_then | apply e_then_ret | apply e_then_exit | apply e_in | apply e_in_ret | apply e_in_same)))
    refine l_again (i + 1) (show i + 1 ≤ l.length by omega) (show l.length - (i + 1) < l.length - i by omega) ?_ ?_
    · (repeat (first | exact FSub.nil | refine FSub.cons rfl ?_))
    · simp only [e1]; ((try dsimp only); repeat (first | exact HSub.nil rfl | (apply HSub.take; (repeat (first | exact Rem.hd | apply Rem.tl | apply Rem.right))) | exact HSub.same | (apply HSub.takeL; ((focus (repeat (first | exact RemL.hd | exact RemL.all | exact RemL.nil | apply RemL.tl | apply RemL.right))) <;> done)) | apply HSub.drop | (apply HSub.takeL; (focus ((repeat (first | exact RemL.hd | exact RemL.all | exact RemL.nil | apply RemL.tl | apply RemL.right))))) | (apply HSub.takeA; (first | exact RemL.hd | exact RemL.all); ((focus (repeat (first | exact AO.nil | apply AO.cons | (apply AO.app; assumption)))) <;> done)) | (apply HSub.dropL; assumption) | (apply HSub.takeA; (focus ((repeat (first | exact RemL.hd | exact RemL.all | exact RemL.nil | apply RemL.tl | apply RemL.right)))); ((focus (repeat (first | exact AO.nil | apply AO.cons | (apply AO.app; assumption)))) <;> done)) | (apply HSub.nilA; ((focus (repeat (first | exact AO.nil | apply AO.cons | (apply AO.app; assumption)))) <;> done))))
  rw [List.take_of_length_le (by omega)]
  by_cases hfz : Seq.feedF l [] items ≠ 0
  · have e : Seq.sortF ⟨caps, l, fs, ss⟩ items = (.zero, Seq.feedF l [] items) := by unfold Seq.sortF; rw [if_neg hz, if_neg hbig, if_pos hfz]
    rw [e]
    repeat' (first | ((first | ((with_reducible apply o_call_pure (f := 43)); exact rfl) | ((with_reducible apply q_call_pure (f := 43)); exact rfl; kernel_rfl; exact rfl; (focus (repeat (first | (apply SubJ.keep; (decide +kernel)) | apply SubJ.drop | exact SubJ.nil))))); (repeat (first | exact Evs.nil | apply Evs.cons rfl)); exact (fun w hw => feedable_calls (l := l) w (hw.at (by ((focus (repeat (first | assumption | exact At.hd | refine At.tl ?_ | (refine At.left ?_; assumption) | refine At.right ?_))) <;> done))) hnd (hi.keep hw (by ((focus (repeat (first | exact AO.nil | apply AO.cons | (apply AO.app; assumption)))) <;> done))) (by omega))) | ((with_reducible first | apply o_move | apply o_assign | apply o_faddr0); exact rfl; exact rfl) | ((with_reducible apply gdo_load); first | refine wo_load (h := ?_) | refine wo_loadAll (h := ?_) | refine wo_loadC (h := ?_) | refine wo_ldV (h := ?_) | refine wo_ldF (h := ?_)) | ((with_reducible first | apply o_lss | apply o_gtr | apply o_neq | apply o_extract); exact rfl; exact rfl; exact rfl) | ((with_reducible apply gdo_store); first | refine wo_store1 (h := ?_) | refine wo_storeA (h := ?_)) | ((with_reducible apply gdo_build); first | refine wo_build (h := ?_) | refine wo_buildA (h := ?_)) | ((with_reducible first | apply c_seq | apply c_block | apply c_region | apply c_nil | apply c_ret | apply c_exit | apply c_unroll | apply c_skip)) | ((with_reducible apply c_cond_t); exact rfl; exact tT_) | ((with_reducible apply c_cond_f); exact rfl; exact fF_) | ((with_reducible first | apply e_then | apply e_then_ret | apply e_then_exit | apply e_in | apply e_in_ret | apply e_in_same)))
    all_goals first
      | (exfalso; omega)
      | (apply r_body; apply res2 Try.results23; exact rV_; exact rV_; intro w' hw; exact ⟨_, [], rfl, sortφ_zero _, hw.sub (by ((try dsimp only); repeat (first | exact HSub.nil rfl | (apply HSub.take; (repeat (first | exact Rem.hd | apply Rem.tl | apply Rem.right))) | exact HSub.same | (apply HSub.takeL; ((focus (repeat (first | exact RemL.hd | exact RemL.all | exact RemL.nil | apply RemL.tl | apply RemL.right))) <;> done)) | apply HSub.drop | (apply HSub.takeL; (focus ((repeat (first | exact RemL.hd | exact RemL.all | exact RemL.nil | apply RemL.tl | apply RemL.right))))) | (apply HSub.takeA; (first | exact RemL.hd | exact RemL.all); ((focus (repeat (first | exact AO.nil | apply AO.cons | (apply AO.app; assumption)))) <;> done)) | (apply HSub.dropL; assumption) | (apply HSub.takeA; (focus ((repeat (first | exact RemL.hd | exact RemL.all | exact RemL.nil | apply RemL.tl | apply RemL.right)))); ((focus (repeat (first | exact AO.nil | apply AO.cons | (apply AO.app; assumption)))) <;> done)) | (apply HSub.nilA; ((focus (repeat (first | exact AO.nil | apply AO.cons | (apply AO.app; assumption)))) <;> done))))), by simp⟩)
  have hfz0 : Seq.feedF l [] items = 0 := by omega
  have hfound := feedF_zero hfz0
  have e : Seq.sortF ⟨caps, l, fs, ss⟩ items = (Seq.runF ⟨caps, l, fs, ss⟩ items, 0) := by unfold Seq.sortF; rw [if_neg hz, if_neg hbig, if_neg hfz]
  rw [e]
  have hfc : ∀ {w'} {L : List Ent}, Rep w w' L → AO L → At L bm (MO (seatM l)) → Calls Try.prog 43 #[.map (some bm), .slice a5 items.length c5] w' fun e w'' => e = .returned (.int .i64 0) ∧ Below w'.heap.size w' w'' := fun hw ho hat => by
    rw [← hfz0]; exact feedable_calls (l := l) _ (hw.at hat) hnd (hi.keep hw ho) (by omega)
  repeat' (first | ((first | ((with_reducible apply o_call_pure (f := 43)); exact rfl) | ((with_reducible apply q_call_pure (f := 43)); exact rfl; kernel_rfl; exact rfl; (focus (repeat (first | (apply SubJ.keep; (decide +kernel)) | apply SubJ.drop | exact SubJ.nil))))); (repeat (first | exact Evs.nil | apply Evs.cons rfl)); exact (fun w hw => hfc hw (by ((focus (repeat (first | exact AO.nil | apply AO.cons | (apply AO.app; assumption)))) <;> done)) (by ((focus (repeat (first | assumption | exact At.hd | refine At.tl ?_ | (refine At.left ?_; assumption) | refine At.right ?_))) <;> done)))) | (apply o_makeSlice (m := 0) (c := items.length); infer_instance; infer_instance; exact rfl; exact rfl; exact rfl; exact rfl; decide; omega; exact rfl; intro _) | ((with_reducible first | apply o_move | apply o_assign | apply o_faddr0); exact rfl; exact rfl) | ((with_reducible apply gdo_load); first | refine wo_load (h := ?_) | refine wo_loadAll (h := ?_) | refine wo_loadC (h := ?_) | refine wo_ldV (h := ?_) | refine wo_ldF (h := ?_)) | ((with_reducible first | apply o_lss | apply o_gtr | apply o_neq | apply o_extract); exact rfl; exact rfl; exact rfl) | ((with_reducible first | apply o_alloc | apply o_makeMap0); exact rfl; intro _) | ((with_reducible apply o_len); infer_instance; exact rfl; exact rfl) | ((with_reducible apply gdo_makeFunc); refine wo_func (h := ?_)) | ((with_reducible first | apply c_seq | apply c_block | apply c_region | apply c_nil | apply c_ret | apply c_exit | apply c_unroll | apply c_skip)) | ((with_reducible apply c_cond_f); exact rfl; exact fF_) | ((with_reducible first | apply e_then | apply e_then_ret | apply e_then_exit | apply e_in | apply e_in_ret | apply e_in_same)))
  rename_i b13 br
  have hlz : (List.replicate items.length [Value.int .i64 0]).flatten.length = items.length * 1 := by simp
  have h0 : OW 3 1 encN (.slice (some ⟨br, 0, none⟩) 0 items.length) [] [⟨br, Ce (List.replicate items.length [Value.int .i64 0]).flatten 3, true⟩] :=
    OW.row (xs := []) (s := (List.replicate items.length [Value.int .i64 0]).flatten) hlz ⟨Nat.zero_le _, Nat.zero_le _⟩
  apply c_loop (σ := Nat × (Option Addr × Nat) × List Ent) (Fs := fun t => [(58, .int .i64 t.1), (57, .int .i64 items.length), (14, .slice t.2.1.1 (List.range t.1).length t.2.1.2), (13, ptr b13), (12, .func (.func 44) #[] #[ptr bp, ptr bx, ptr bi]), (4, ptr b4)])
    (Ls := fun t => ⟨b13, Ce [.slice none 0 0, .slice none 0 0, .slice none 0 0] 50, true⟩ :: ⟨bm, MO (seatM l), true⟩ :: ⟨bx, Ce [.map (some bm)] 91, true⟩ :: ⟨b4, Ce [.slice none 0 0, .slice none 0 0, .slice none 0 0] 50, true⟩ :: ⟨bi, Ce [.slice a5 items.length c5] 24, true⟩ :: ⟨bp, Ce [.slice a1 caps.length c1, .slice a2 l.length c2, .slice a3 fs.length c3, .slice a4 ss.length c4] 38, true⟩ :: (t.2.2 ++ []))
    (I := fun t => t.1 ≤ items.length ∧ OW 3 1 encN (.slice t.2.1.1 (List.range t.1).length t.2.1.2) (List.range t.1) t.2.2) (μ := fun t => items.length - t.1) (s0 := (0, (some ⟨br, 0, none⟩, items.length), [⟨br, Ce (List.replicate items.length [Value.int .i64 0]).flatten 3, true⟩]))
  · exact ⟨Nat.zero_le _, h0⟩
  · (repeat (first | exact FSub.nil | refine FSub.cons rfl ?_))
  · ((try dsimp only); repeat (first | exact HSub.nil rfl | (apply HSub.take; (repeat (first | exact Rem.hd | apply Rem.tl | apply Rem.right))) | exact HSub.same | (apply HSub.takeL; ((focus (repeat (first | exact RemL.hd | exact RemL.all | exact RemL.nil | apply RemL.tl | apply RemL.right))) <;> done)) | apply HSub.drop | (apply HSub.takeL; (focus ((repeat (first | exact RemL.hd | exact RemL.all | exact RemL.nil | apply RemL.tl | apply RemL.right))))) | (apply HSub.takeA; (first | exact RemL.hd | exact RemL.all); ((focus (repeat (first | exact AO.nil | apply AO.cons | (apply AO.app; assumption)))) <;> done)) | (apply HSub.dropL; assumption) | (apply HSub.takeA; (focus ((repeat (first | exact RemL.hd | exact RemL.all | exact RemL.nil | apply RemL.tl | apply RemL.right)))); ((focus (repeat (first | exact AO.nil | apply AO.cons | (apply AO.app; assumption)))) <;> done)) | (apply HSub.nilA; ((focus (repeat (first | exact AO.nil | apply AO.cons | (apply AO.app; assumption)))) <;> done))))
  rintro ⟨j, ⟨ad, cp⟩, N⟩ ⟨hj, hO⟩
  dsimp only at hj hO ⊢
  have hN := hO.own
  have hrl : (List.range j).length = j := List.length_range
  by_cases hlt2 : j < items.length
  · repeat' (first | (apply o_appH (enc := encN) (ys := [(j)]); infer_instance; infer_instance; infer_instance; exact rfl; exact encN_len; exact encN_one; exact rfl; exact rfl; exact rfl; assumption; (repeat (first | exact RemL.hd | exact RemL.all | exact RemL.nil | apply RemL.tl | apply RemL.right)); (exact fun w hw => SV.lit [(j)] encN_len hw (by ((focus (repeat (first | assumption | exact At.hd | refine At.tl ?_ | (refine At.left ?_; assumption) | refine At.right ?_))) <;> done)) rfl rfl (by decide)); (first | decide | (constructor <;> (try simp only [List.length_cons, List.length_nil]) <;> omega) | (constructor <;> simp <;> omega)); intro _ _ _ _) | ((with_reducible first | apply o_move | apply o_assign | apply o_faddr0); exact rfl; exact rfl) | ((with_reducible first | apply o_lss | apply o_gtr | apply o_neq | apply o_extract); exact rfl; exact rfl; exact rfl) | ((with_reducible apply o_add); exact rfl; exact rfl; exact rfl; (constructor <;> omega)) | ((with_reducible apply gdo_buildSlice); refine wo_buildSlice (h := fun _ => ?_)) | ((with_reducible first | apply c_seq | apply c_block | apply c_region | apply c_nil | apply c_ret | apply c_exit | apply c_unroll | apply c_skip)) | ((with_reducible apply c_cond_t); exact rfl; exact tT_) | ((with_reducible first | apply e_then | apply e_then_ret | apply e_then_exit | apply e_in | apply e_in_ret | apply e_in_same)))
    rename_i a' cp' N' hO'
    rw [← List.range_succ] at hO' ⊢
    refine l_again (j + 1, (a', cp'), N') ⟨by dsimp only; omega, hO'⟩ (by dsimp only; omega) ?_ ?_
    · (repeat (first | exact FSub.nil | refine FSub.cons rfl ?_))
    · ((try dsimp only); repeat (first | exact HSub.nil rfl | (apply HSub.take; (repeat (first | exact Rem.hd | apply Rem.tl | apply Rem.right))) | exact HSub.same | (apply HSub.takeL; ((focus (repeat (first | exact RemL.hd | exact RemL.all | exact RemL.nil | apply RemL.tl | apply RemL.right))) <;> done)) | apply HSub.drop | (apply HSub.takeL; (focus ((repeat (first | exact RemL.hd | exact RemL.all | exact RemL.nil | apply RemL.tl | apply RemL.right))))) | (apply HSub.takeA; (first | exact RemL.hd | exact RemL.all); ((focus (repeat (first | exact AO.nil | apply AO.cons | (apply AO.app; assumption)))) <;> done)) | (apply HSub.dropL; assumption) | (apply HSub.takeA; (focus ((repeat (first | exact RemL.hd | exact RemL.all | exact RemL.nil | apply RemL.tl | apply RemL.right)))); ((focus (repeat (first | exact AO.nil | apply AO.cons | (apply AO.app; assumption)))) <;> done)) | (apply HSub.nilA; ((focus (repeat (first | exact AO.nil | apply AO.cons | (apply AO.app; assumption)))) <;> done))))
  obtain rfl : j = items.length := by omega
  have hfed1 : ∀ i ∈ List.range items.length, ∃ x s, items[i]? = some x ∧ Seq.findF l x = some s ∧ 0 ≤ Seq.Seat.first s ∧ Seq.Seat.first s < caps.length := fun i hi' => by
    have hlt := List.mem_range.1 hi'
    have hx : items[i]? = some items[i] := List.getElem?_eq_getElem hlt
    obtain ⟨s, hs⟩ := hfound _ (List.mem_of_getElem? hx)
    obtain ⟨jj, hjj, _⟩ := findF_some hs
    have := hrange s (List.mem_of_getElem? hjj)
    exact ⟨_, s, hx, hs, this.1.1, this.1.2⟩
  have hfed2 : ∀ i ∈ (Seq.passF caps.length (Seq.keyF l items Seq.Seat.first) (List.range items.length)).flatten, ∃ x s, items[i]? = some x ∧ Seq.findF l x = some s ∧ 0 ≤ Seq.Seat.second s ∧ Seq.Seat.second s < caps.length := fun i hi' => by
    have hlt := List.mem_range.1 (passF_mem hi')
    have hx : items[i]? = some items[i] := List.getElem?_eq_getElem hlt
    obtain ⟨s, hs⟩ := hfound _ (List.mem_of_getElem? hx)
    obtain ⟨jj, hjj, _⟩ := findF_some hs
    have := hrange s (List.mem_of_getElem? hjj)
    exact ⟨_, s, hx, hs, this.2.1.1, this.2.1.2⟩
  have htot := passF_total caps.length (Seq.keyF l items Seq.Seat.first) (List.range items.length)
  rw [List.length_range] at htot
  have hcp : items.length ≤ 2000 := by omega
  repeat' (first | ((with_reducible apply o_call_newV (f := 44) (φ := passφ caps.length (Seq.passF caps.length (Seq.keyF l items Seq.Seat.first) (List.range items.length)))); exact rfl; exact rfl; (repeat (first | exact Evs.nil | apply Evs.cons rfl)); (exact fun w hw => pass_calls (f := 46) (g := Seq.Seat.first) (by kernel_rfl) key1_calls (l := l) (items := items) w (hw.at (by ((focus (repeat (first | assumption | exact At.hd | refine At.tl ?_ | (refine At.left ?_; assumption) | refine At.right ?_))) <;> done))) (hw.at (by ((focus (repeat (first | assumption | exact At.hd | refine At.tl ?_ | (refine At.left ?_; assumption) | refine At.right ?_))) <;> done))) (hw.at (by ((focus (repeat (first | assumption | exact At.hd | refine At.tl ?_ | (refine At.left ?_; assumption) | refine At.right ?_))) <;> done))) (hw.at (by ((focus (repeat (first | assumption | exact At.hd | refine At.tl ?_ | (refine At.left ?_; assumption) | refine At.right ?_))) <;> done))) hnd (hi.keep hw (by ((focus (repeat (first | exact AO.nil | apply AO.cons | (apply AO.app; assumption)))) <;> done))) (hO.sv encN_len (by (repeat (first | exact RemL.hd | exact RemL.all | exact RemL.nil | apply RemL.tl | apply RemL.right))) hw) hm.1 (by omega) hfed1); rintro v N1 ⟨b1, a6, c6, ss1, M1, R1, rfl, hL1, hl1', hO1, rfl, oM1, oN1⟩; simp only [List.cons_append, List.append_assoc]) | ((with_reducible first | apply o_move | apply o_assign | apply o_faddr0); exact rfl; exact rfl) | ((with_reducible first | apply o_lss | apply o_gtr | apply o_neq | apply o_extract); exact rfl; exact rfl; exact rfl) | ((with_reducible apply gdo_store); first | refine wo_store1 (h := ?_) | refine wo_storeA (h := ?_)) | ((with_reducible first | apply c_seq | apply c_block | apply c_region | apply c_nil | apply c_ret | apply c_exit | apply c_unroll | apply c_skip)) | ((with_reducible apply c_cond_f); exact rfl; exact fF_) | ((with_reducible first | apply e_then | apply e_then_ret | apply e_then_exit | apply e_in | apply e_in_ret | apply e_in_same)))
  repeat' (first | ((with_reducible apply o_call_newV (f := 44) (φ := passφ caps.length (Seq.passF caps.length (Seq.keyF l items Seq.Seat.second) (Seq.passF caps.length (Seq.keyF l items Seq.Seat.first) (List.range items.length)).flatten))); exact rfl; exact rfl; (repeat (first | exact Evs.nil | apply Evs.cons rfl)); (exact fun w hw => pass_calls (f := 47) (g := Seq.Seat.second) (by kernel_rfl) key2_calls (l := l) (items := items) w (hw.at (by ((focus (repeat (first | assumption | exact At.hd | refine At.tl ?_ | (refine At.left ?_; assumption) | refine At.right ?_))) <;> done))) (hw.at (by ((focus (repeat (first | assumption | exact At.hd | refine At.tl ?_ | (refine At.left ?_; assumption) | refine At.right ?_))) <;> done))) (hw.at (by ((focus (repeat (first | assumption | exact At.hd | refine At.tl ?_ | (refine At.left ?_; assumption) | refine At.right ?_))) <;> done))) (hw.at (by ((focus (repeat (first | assumption | exact At.hd | refine At.tl ?_ | (refine At.left ?_; assumption) | refine At.right ?_))) <;> done))) hnd (hi.keep hw (by ((focus (repeat (first | exact AO.nil | apply AO.cons | (apply AO.app; assumption)))) <;> done))) (hO1.sv encN_len (by (repeat (first | exact RemL.hd | exact RemL.all | exact RemL.nil | apply RemL.tl | apply RemL.right))) hw) hm.1 (by omega) hfed2); rintro v N1 ⟨b2, a7, c7, ss2, M2, R2, rfl, hL2, hl2, hO2, rfl, oM2, oN2⟩; simp only [List.cons_append, List.append_assoc]) | ((with_reducible first | apply o_move | apply o_assign | apply o_faddr0); exact rfl; exact rfl) | ((with_reducible apply gdo_load); first | refine wo_load (h := ?_) | refine wo_loadAll (h := ?_) | refine wo_loadC (h := ?_) | refine wo_ldV (h := ?_) | refine wo_ldF (h := ?_)) | ((with_reducible first | apply o_lss | apply o_gtr | apply o_neq | apply o_extract); exact rfl; exact rfl; exact rfl) | ((with_reducible apply gdo_store); first | refine wo_store1 (h := ?_) | refine wo_storeA (h := ?_)) | ((with_reducible first | apply c_seq | apply c_block | apply c_region | apply c_nil | apply c_ret | apply c_exit | apply c_unroll | apply c_skip)) | ((with_reducible first | apply e_then | apply e_then_ret | apply e_then_exit | apply e_in | apply e_in_ret | apply e_in_same)))
  apply r_body; apply res2 Try.results23; exact rV_; exact rV_; intro w' hw
  refine ⟨_, _, rfl, sortφ_mk (x := Seq.runF ⟨caps, l, fs, ss⟩ items) (passF_len _ _ _) (passF_len _ _ _) rfl (ow_rows hl1' (show caps.length ≤ 1000 by omega)) hL1 (ow_rows hl2 (show caps.length ≤ 1000 by omega)) hL2 hO2 0, hw.sub (by simp only [List.cons_append, List.nil_append]; ((try dsimp only); repeat (first | exact HSub.nil rfl | (apply HSub.take; (repeat (first | exact Rem.hd | apply Rem.tl | apply Rem.right))) | exact HSub.same | (apply HSub.takeL; ((focus (repeat (first | exact RemL.hd | exact RemL.all | exact RemL.nil | apply RemL.tl | apply RemL.right))) <;> done)) | apply HSub.drop | (apply HSub.takeL; (focus ((repeat (first | exact RemL.hd | exact RemL.all | exact RemL.nil | apply RemL.tl | apply RemL.right))))) | (apply HSub.takeA; (first | exact RemL.hd | exact RemL.all); ((focus (repeat (first | exact AO.nil | apply AO.cons | (apply AO.app; assumption)))) <;> done)) | (apply HSub.dropL; assumption) | (apply HSub.takeA; (focus ((repeat (first | exact RemL.hd | exact RemL.all | exact RemL.nil | apply RemL.tl | apply RemL.right)))); ((focus (repeat (first | exact AO.nil | apply AO.cons | (apply AO.app; assumption)))) <;> done)) | (apply HSub.nilA; ((focus (repeat (first | exact AO.nil | apply AO.cons | (apply AO.app; assumption)))) <;> done))))), ?_⟩
  intro x hx
  simp only [List.mem_cons, List.mem_append, List.not_mem_nil, or_false] at hx
  rcases hx with rfl | hx | rfl | hx | hx
  · rfl
  · exact oM1 x hx
  · rfl
  · exact oM2 x hx
  · exact oN2 x hx
end Go.Proofs.Yteilhjglohahoaa
