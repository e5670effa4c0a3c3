/-
  The given statement TopOrdered: the mail for a route of a file that letterbaglaw12.Built returns leaves the second pass in the order of the route. Conditions: none.
-/
import Derived.Test.YthcoaljmgkhglaaZOTop3
import Derived.Test.YthcoaljmgkhglaaZOTop9
import Derived.Test.YthcoaljmgkhglaaZOTop2
set_option linter.unusedSimpArgs false
set_option linter.unusedVariables false
set_option linter.unusedSectionVars false
namespace Go.Proofs.Ythcoaljmgkhglaa
open Go Go.Sx Go.RowKit
attribute [local irreducible] WL WC WQ WR WB WF QB St Exit.then Exit.inBlock Exit.noGoto bodyPost roundPost beginK YR RG BM Calls B AgainD MeetD
theorem all_refer {v0 v1 : Value} {a2 a3 : Option Addr} {n2 c2 n3 c3 : Nat} (h0 : v0.oneCell' = true) (h1 : v1.oneCell' = true) : ([v0, v1, .slice a2 n2 c2, .slice a3 n3 c3] : List Value).all (·.oneCell') = true := by
  simp only [List.all_cons, List.all_nil, h0, h1, Bool.true_and, Bool.and_true]
  rfl
def encP5 (x : SD × SD × SD × SD × SD) : List Value := [sdV x.1, sdV x.2.1, sdV x.2.2.1, sdV x.2.2.2.1, sdV x.2.2.2.2]
theorem encP5_len : ∀ x, (encP5 x).length = 5 := fun _ => rfl
theorem point_is {v0 v1 v2 v3 : Value} {ps : List Ref.Pt} {n q0 q1 q2 q3 q6 q7 : Int} {q4 q5 : List UInt8} (hp : (ps.find? fun p => decide (p.id = n)) = some ⟨q0, q1, q2, q3, q4, q5, q6, q7⟩) (w : World) (h : SV w 8 encPt v3 ps) :
    Calls Try.prog 7 #[.agg #[v0, v1, v2, v3], .int .i64 n] w fun e w' => e = .returned (.tuple #[.agg #[.int .i64 q0, .int .i64 q1, .int .i64 q2, .int .i64 q3, str q4, str q5, .int .i64 q6, .int .i64 q7], .bool true]) ∧ Below w.heap.size w w' := point_calls hp w h
/-! ## TopOrdered -/
set_option maxHeartbeats 64000000 in
set_option maxRecDepth 100000 in
theorem top_calls {vx2 vx3 vc vm : Value} {tw st wh : Int} {cuts cs ml : List UInt8} {pts : List UInt16} (w : World) (htw : 0 ≤ tw ∧ tw ≤ 255) (hst : 0 ≤ st ∧ st ≤ 255) (hwh : 0 ≤ wh ∧ wh ≤ 255) (h2 : SV w 1 encB vx2 cuts) (h3 : SV w 1 encH vx3 pts) (hc : SV w 1 encB vc cs) (hm : SV w 1 encB vm ml) :
    Calls Try.prog 3 #[.agg #[.int .u8 tw, .int .u8 st, vx2, vx3], .int .u8 wh, vc, vm] w fun e w' => e = .returned (.bool true) ∧ Below w.heap.size w w' := by
  obtain ⟨ac, cc, rfl, hcc, -⟩ := hc.open
  obtain ⟨am, cm, rfl, hcm, -⟩ := hm.open
  refine f_enter4 Try.func3 rfl Try.ntmps3 rfl (Rep.start w) ?_
  repeat' (first | ((first | ((with_reducible apply o_call_new (f := 4)); exact rfl) | ((with_reducible apply q_call_new (f := 4)); exact rfl; exact rfl; exact sJ_)); exact eV_; exact (fun w hw => built12_calls' w htw hst (h2.keep hw (by exact aO_)) (h3.keep hw (by exact aO_))); rintro v N ⟨v0, v1, a2, c2, a3, c3, rs, ps, rfl, ⟨hv0, hv1⟩, hok, hrl, hS, oN⟩ <;> (try simp only [List.cons_append, List.nil_append, List.append_assoc])) | ((with_reducible apply o_storeA); infer_instance; exact rfl; exact rfl; exact rfl; exact all_refer hv0 hv1; exact aT_; (repeat (first | exact LPut.done | apply LPut.put | apply LPut.skip)); exact uP_) | ((with_reducible first | apply o_move | apply o_assign | apply o_faddr0 | apply o_conv); exact rfl; exact rfl) | ((with_reducible apply gdo_load); first | refine wo_load (h := ?_) | refine wo_loadAll (h := ?_) | refine wo_loadC (h := ?_) | refine wo_ldV (h := ?_)) | ((with_reducible first | apply o_lss | apply o_leq | apply o_gtr | apply o_eql | apply o_neq | apply o_extract | apply o_min2 | apply o_max2); exact rfl; exact rfl; exact rfl) | ((with_reducible first | apply o_alloc | apply o_makeMap0); exact rfl; intro _) | ((with_reducible apply o_box); exact rfl; exact rfl; exact rfl; intro _) | ((with_reducible apply o_len); infer_instance; exact rfl; exact rfl) | ((with_reducible first | apply c_seq | apply c_block | apply c_region | apply c_nil | apply c_ret | apply c_exit | apply c_skip)) | ((with_reducible first | apply e_then | apply e_then_ret | apply e_then_exit | apply e_in | apply e_in_ret | apply e_in_same)))
  rename_i b4 b9
  by_cases hr0 : rs.length = 0
  · as_aux_lemma =>
      repeat' (first | ((with_reducible apply c_cond_t); exact rfl; exact decide_eq_true (by omega)) | ((first | ((with_reducible apply o_call_pure (f := 5)); exact rfl) | ((with_reducible apply q_call_pure (f := 5)); exact rfl; kernel_rfl; exact rfl; exact sJ_)); exact eV_; exact (fun w _ => sorting_calls w)) | ((with_reducible first | apply o_move | apply o_assign | apply o_faddr0 | apply o_conv); exact rfl; exact rfl) | ((with_reducible first | apply c_seq | apply c_block | apply c_region | apply c_nil | apply c_ret | apply c_exit | apply c_skip)) | ((with_reducible first | apply e_then | apply e_then_ret | apply e_then_exit | apply e_in | apply e_in_ret | apply e_in_same)))
      apply r_body; apply res1 Try.results3; exact rV_; intro w' hw
      exact ⟨rfl, hw.below (show AO _ from by exact aO_)⟩
  have hq1 := Int.emod_nonneg wh (show (rs.length : Int) ≠ 0 by omega)
  have hq2 := Int.emod_lt_of_pos wh (show 0 < (rs.length : Int) by omega)
  obtain ⟨qi, hqi⟩ : ∃ k : Nat, wh % (rs.length : Int) = (k : Int) := ⟨(wh % (rs.length : Int)).toNat, by omega⟩
  have hql : qi < rs.length := by omega
  obtain ⟨⟨g0, g1, g2, g3, g4, g5, g6⟩, hx⟩ : ∃ s, rs[qi]? = some s := ⟨_, List.getElem?_eq_getElem hql⟩
  refine st_know (fun w' hw' => SV.ptr (hS _ _ _ _ (by exact rL_) hw').1 hx) ?_
  rintro ⟨be, oe, rfl⟩
  have hSr : ∀ {w' : World} {L L0 : List Ent}, RemL L N L0 → Rep w w' L → SV w' 7 encRg (.slice (some ⟨be, oe, none⟩) rs.length c2) rs := fun hr hw => (hS _ _ _ _ hr hw).1
  have hSp : ∀ {w' : World} {L L0 : List Ent}, RemL L N L0 → Rep w w' L → SV w' 8 encPt (.slice a3 ps.length c3) ps := fun hr hw => (hS _ _ _ _ hr hw).2
  have hrd := hok.road rs g6
  repeat' (first | ((with_reducible apply c_cond_f); exact rfl; exact decide_eq_false (by omega)) | ((with_reducible apply q_conv8); infer_instance; infer_instance; exact rfl; exact rfl; exact sJ_; (constructor <;> omega); exact rfl) | ((with_reducible apply q_remE (v := (qi : Int))); exact rfl; exact rfl; exact hqi; omega; exact rfl) | ((with_reducible apply q_ldP (v := .int .i64 g6)); infer_instance; exact rfl; exact rfl; exact sJ_; (intro w' hw'; exact SV.cell (hSr (by exact rL_) hw') hx (j := 6) rfl); exact rfl) | ((with_reducible apply c_regionD (id := 4) [] 12); kernel_rfl; kernel_rfl; simp only [List.take_succ_cons, List.take_zero, List.drop_succ_cons, List.drop_zero]) | ((first | ((with_reducible apply o_call_new (f := 6)); exact rfl) | ((with_reducible apply q_call_new (f := 6)); exact rfl; exact rfl; exact sJ_)); exact eV_; exact (fun w hw => route_calls g6 hok.along hok.len hrl hok.num w (hSr (by exact rL_) hw) (hSp (by exact rL_) hw)); rintro v NR ⟨aR, cR, rfl, hOR⟩ <;> (try simp only [List.cons_append, List.nil_append, List.append_assoc])) | ((with_reducible first | apply o_move | apply o_assign | apply o_faddr0 | apply o_conv); exact rfl; exact rfl) | ((with_reducible first | apply o_lss | apply o_leq | apply o_gtr | apply o_eql | apply o_neq | apply o_extract | apply o_min2 | apply o_max2); exact rfl; exact rfl; exact rfl) | ((with_reducible apply o_len); infer_instance; exact rfl; exact rfl) | ((with_reducible first | apply c_seq | apply c_block | apply c_region | apply c_nil | apply c_ret | apply c_exit | apply c_skip)) | ((with_reducible first | apply e_then | apply e_then_ret | apply e_then_exit | apply e_in | apply e_in_ret | apply e_in_same)) | ((with_reducible apply q_nil); try simp only [ents, List.cons_append, List.nil_append]) | ((with_reducible first | apply q_move | apply q_assign | apply q_faddr0 | apply q_not_d); exact rfl; exact rfl) | ((with_reducible first | apply q_faddr); exact rfl; exact rfl) | ((with_reducible apply gdq_load); first | refine wq_load (h := ?_) | refine wq_loadAll (h := ?_) | refine wq_loadC (h := ?_)) | ((with_reducible apply gdq_call_len); first | refine wq_len (h := ?_)) | ((with_reducible apply q_idx); infer_instance; infer_instance; exact rfl; exact rfl; (first | exact rfl | omega); exact rfl; (first | assumption | omega | decide)))
  have oR0 := hOR.own
  obtain ⟨S, hS0⟩ : ∃ S, Ref.stopsOf rs ps g6 = S := ⟨_, rfl⟩
  obtain ⟨R, hR0⟩ : ∃ R, S.map Ref.Pt.id = R := ⟨_, rfl⟩
  have hrf : Ref.routeF rs ps g6 = R := by rw [← hR0, ← hS0]; rfl
  rw [hrf] at hOR ⊢
  rw [hS0] at hrd
  have hRl : R.length = S.length := by rw [← hR0, List.length_map]
  have hSl := hrd.len
  have hRnd : R.Nodup := by rw [← hR0]; exact hrd.nodup
  have hRid : ∀ x ∈ R, 1 ≤ x ∧ x ≤ 999999 := by
    rw [← hR0]; intro x hx
    obtain ⟨p, hp, rfl⟩ := List.mem_map.1 hx
    exact hrd.id p hp
  have hRat : ∀ (i : Nat) (p : Ref.Pt), S[i]? = some p → R[i]? = some p.id := fun i p hp => by rw [← hR0, List.getElem?_map, hp]; rfl
  by_cases hl0 : R.length = 0
  · as_aux_lemma =>
      repeat' (first | ((with_reducible apply o_pick_t); exact rfl; exact decide_eq_true (by omega); exact rfl; exact rfl) | ((with_reducible apply g_skip); exact rfl; exact decide_eq_true (by omega); exact rfl) | ((first | ((with_reducible apply o_call_pure (f := 5)); exact rfl) | ((with_reducible apply q_call_pure (f := 5)); exact rfl; kernel_rfl; exact rfl; exact sJ_)); exact eV_; exact (fun w _ => sorting_calls w)) | ((with_reducible first | apply o_move | apply o_assign | apply o_faddr0 | apply o_conv); exact rfl; exact rfl) | ((with_reducible first | apply c_seq | apply c_block | apply c_region | apply c_nil | apply c_ret | apply c_exit | apply c_skip)) | ((with_reducible apply c_cond_t); exact rfl; exact tT_) | ((with_reducible first | apply e_then | apply e_then_ret | apply e_then_exit | apply e_in | apply e_in_ret | apply e_in_same)))
      apply r_body; apply res1 Try.results3; exact rV_; intro w' hw
      exact ⟨rfl, hw.below (show AO _ from by exact aO_)⟩
  by_cases hc0 : cs.length = 0
  · as_aux_lemma =>
      repeat' (first | ((with_reducible apply c_cond_t); exact rfl; exact decide_eq_true (by omega)) | ((with_reducible apply o_pick_f); exact rfl; exact decide_eq_false (by omega); exact rfl; exact rfl) | ((with_reducible apply g_run); exact rfl; exact decide_eq_false (by omega)) | ((first | ((with_reducible apply o_call_pure (f := 5)); exact rfl) | ((with_reducible apply q_call_pure (f := 5)); exact rfl; kernel_rfl; exact rfl; exact sJ_)); exact eV_; exact (fun w _ => sorting_calls w)) | ((with_reducible first | apply o_move | apply o_assign | apply o_faddr0 | apply o_conv); exact rfl; exact rfl) | ((with_reducible first | apply o_lss | apply o_leq | apply o_gtr | apply o_eql | apply o_neq | apply o_extract | apply o_min2 | apply o_max2); exact rfl; exact rfl; exact rfl) | ((with_reducible apply o_len); infer_instance; exact rfl; exact rfl) | ((with_reducible first | apply c_seq | apply c_block | apply c_region | apply c_nil | apply c_ret | apply c_exit | apply c_skip)) | ((with_reducible first | apply e_then | apply e_then_ret | apply e_then_exit | apply e_in | apply e_in_ret | apply e_in_same)))
      apply r_body; apply res1 Try.results3; exact rV_; intro w' hw
      exact ⟨rfl, hw.below (show AO _ from by exact aO_)⟩
  obtain ⟨bR, sR, rfl, rfl⟩ := OW.some hOR (by omega)
  clear hS0 hrf hx hql hqi hq1 hq2 hr0
  repeat' (first | ((with_reducible apply c_cond_f); exact rfl; exact decide_eq_false (by omega)) | ((with_reducible apply o_pick_f); exact rfl; exact decide_eq_false (by omega); exact rfl; exact rfl) | ((with_reducible apply g_run); exact rfl; exact decide_eq_false (by omega)) | ((with_reducible first | apply o_move | apply o_assign | apply o_faddr0 | apply o_conv); exact rfl; exact rfl) | ((with_reducible first | apply o_lss | apply o_leq | apply o_gtr | apply o_eql | apply o_neq | apply o_extract | apply o_min2 | apply o_max2); exact rfl; exact rfl; exact rfl) | ((with_reducible first | apply o_alloc | apply o_makeMap0); exact rfl; intro _) | ((with_reducible apply o_len); infer_instance; exact rfl; exact rfl) | ((with_reducible first | apply c_seq | apply c_block | apply c_region | apply c_nil | apply c_ret | apply c_exit | apply c_skip)) | ((with_reducible first | apply e_then | apply e_then_ret | apply e_then_exit | apply e_in | apply e_in_ret | apply e_in_same)))
  rename_i b11
  apply c_loop (σ := Nat × Int) (Fs := fun t => [(78, .int .i64 t.1), (77, .int .i64 R.length), (76, .slice (some ⟨bR, 0, none⟩) R.length cR), (12, .int .i64 t.2), (11, .map (some b11)), (10, .slice (some ⟨bR, 0, none⟩) R.length cR), (9, ptr b9), (2, .slice ac cs.length cc), (3, .slice am ml.length cm)])
    (Ls := fun t => ⟨b11, MO (MM kI kI (Top.atL (R.take t.1))), true⟩ :: ⟨bR, Ce (R.flatMap encI ++ sR) 3, true⟩ :: ⟨b9, Ce [v0, v1, .slice (some ⟨be, oe, none⟩) rs.length c2, .slice a3 ps.length c3] 31, true⟩ :: (N ++ []))
    (I := fun t => t.1 ≤ S.length ∧ ∀ (k : Nat) (p : Ref.Pt), t.1 ≤ k → S[k]? = some p → t.2 < p.seq) (μ := fun t => S.length - t.1) (s0 := (0, 0))
  · exact ⟨Nat.zero_le _, fun k p _ hp => by have := hrd.seq p (List.mem_of_getElem? hp); dsimp only; omega⟩
  · exact fS_
  · exact hS_
  rintro ⟨i, last⟩ ⟨hi, hlast⟩
  dsimp only at hi hlast ⊢
  by_cases hlt : i < S.length
  · obtain ⟨⟨q0, q1, q2, q3, q4, q5, q6, q7⟩, hx⟩ : ∃ s, S[i]? = some s := ⟨_, List.getElem?_eq_getElem hlt⟩
    have hxr : R[i]? = some q0 := hRat i _ hx
    have hfd := hrd.find _ (List.mem_of_getElem? hx)
    have hls := hlast i _ (Nat.le_refl _) hx
    have hsq := hrd.seq _ (List.mem_of_getElem? hx)
    dsimp only at hls hsq hfd
    have q1' := (Pat.flat encI_len R sR).one hxr rfl
    have hRt : (R.take i).length = i := by rw [List.length_take]; omega
    have hat1 : Top.atL (R.take (i + 1)) = putF q0 (i : Int) (Top.atL (R.take i)) := by
      rw [take_snoc hxr, Top.atL_snoc, hRt]
      refine (putF_new (asF_none.2 fun p hp he => ?_)).symm
      have hm : q0 ∈ (Top.atL (R.take i)).map Prod.fst := List.mem_map.2 ⟨p, hp, he⟩
      rw [Top.atL_keys] at hm
      obtain ⟨j, hj⟩ := List.getElem?_of_mem hm
      have hjl := (List.getElem?_eq_some_iff.1 hj).1
      rw [hRt] at hjl
      rw [List.getElem?_take_of_lt hjl] at hj
      have := (List.getElem?_inj (show j < R.length by omega) hRnd).1 (hj.trans hxr.symm)
      omega
    have hnd : ((Top.atL (R.take i)).map Prod.fst).Nodup := by rw [Top.atL_keys]; exact hRnd.sublist (List.take_sublist _ _)
    as_aux_lemma =>
      repeat' (first | ((first | ((with_reducible apply o_call_pure (f := 7)); exact rfl) | ((with_reducible apply q_call_pure (f := 7)); exact rfl; kernel_rfl; exact rfl; exact sJ_)); exact eV_; exact (fun w hw => point_is hfd w (hSp (by exact rL_) hw))) | ((with_reducible first | apply o_move | apply o_assign | apply o_faddr0 | apply o_conv); exact rfl; exact rfl) | ((with_reducible apply gdo_load); first | refine wo_load (h := ?_) | refine wo_loadAll (h := ?_) | refine wo_loadC (h := ?_) | refine wo_ldV (h := ?_)) | ((with_reducible first | apply o_lss | apply o_leq | apply o_gtr | apply o_eql | apply o_neq | apply o_extract | apply o_min2 | apply o_max2); exact rfl; exact rfl; exact rfl) | ((with_reducible apply o_not); exact rfl; exact rfl) | ((with_reducible apply o_pick_f); exact rfl; exact fF_; exact rfl; exact rfl) | ((with_reducible first | apply o_alloc | apply o_makeMap0); exact rfl; intro _) | ((with_reducible apply gdo_store); first | refine wo_store1 (h := ?_) | refine wo_storeA (h := ?_)) | ((with_reducible apply o_idx); infer_instance; infer_instance; exact rfl; exact rfl; (first | exact rfl | omega); exact rfl; (first | assumption | omega | decide)) | ((with_reducible first | apply g_run); exact rfl; exact gG_) | ((with_reducible first | apply c_seq | apply c_block | apply c_region | apply c_nil | apply c_ret | apply c_exit | apply c_skip)) | ((with_reducible apply c_cond_t); exact rfl; exact tT_) | ((with_reducible apply c_cond_f); exact rfl; exact fF_) | ((with_reducible first | apply e_then | apply e_then_ret | apply e_then_exit | apply e_in | apply e_in_ret | apply e_in_same)))
      rename_i b15
      repeat' (first | ((with_reducible apply o_mapPut (κ := kI) (ν := kI) (k := q0) (v := (i : Int))); infer_instance; infer_instance; exact rfl; exact rfl; exact rfl; exact aT_; assumption; exact uP_) | ((with_reducible apply c_regionK (id := 15) ([⟨b15, Ce [.int .i64 q0, .int .i64 q1, .int .i64 q2, .int .i64 q3, str q4, str q5, .int .i64 q6, .int .i64 q7] 40, true⟩]) 7); kernel_rfl; kernel_rfl; exact hS_) | ((with_reducible apply b_pick (fq := 6) (m := 0) (k := 0) (m' := 1)); kernel_rfl; exact rfl; kernel_rfl) | ((with_reducible apply b_pick (fq := 5) (m := 1) (k := 1) (m' := 3)); kernel_rfl; exact rfl; kernel_rfl) | ((with_reducible apply b_pick (fq := 4) (m := 3) (k := 2) (m' := 7)); kernel_rfl; exact rfl; kernel_rfl) | ((with_reducible apply b_pick (fq := 3) (m := 7) (k := 3) (m' := 15)); kernel_rfl; exact rfl; kernel_rfl) | ((with_reducible apply b_pick (fq := 2) (m := 15) (k := 4) (m' := 31)); kernel_rfl; exact rfl; kernel_rfl) | ((with_reducible apply b_split1 (fq := 1) (m := 31) (k1 := 5) (m1 := 63)); kernel_rfl; exact rfl; kernel_rfl) | ((with_reducible apply b_pick (fq := 0) (m := 63) (k := 6) (m' := 127)); kernel_rfl; exact rfl; kernel_rfl) | ((with_reducible apply b_done); kernel_rfl) | ((with_reducible apply b_in); exact hS_) | ((with_reducible first | apply b_move | apply b_assign | apply b_faddr0); exact rfl; exact rfl) | ((with_reducible apply b_load); infer_instance; exact rfl; exact kN_; exact nT_; exact rfl) | ((with_reducible first | apply o_move | apply o_assign | apply o_faddr0 | apply o_conv); exact rfl; exact rfl) | ((with_reducible first | apply o_add | apply o_sub); exact rfl; exact rfl; exact rfl; (constructor <;> omega)) | ((with_reducible first | apply c_seq | apply c_block | apply c_region | apply c_nil | apply c_ret | apply c_exit | apply c_skip)) | ((with_reducible first | apply e_then | apply e_then_ret | apply e_then_exit | apply e_in | apply e_in_ret | apply e_in_same)))
      refine l_again (i + 1, q7) ⟨by dsimp only; omega, fun k p hk hp => ?_⟩ (by dsimp only; omega) ?_ ?_
      · exact (List.pairwise_iff_getElem.1 hrd.along _ _ (List.getElem?_eq_some_iff.1 hx).1 (List.getElem?_eq_some_iff.1 hp).1 (by dsimp only at hk; omega)).2 |> fun h => by rw [(List.getElem?_eq_some_iff.1 hx).2, (List.getElem?_eq_some_iff.1 hp).2] at h; exact h
      · exact fS_
      · dsimp only; rw [hat1]; exact hS_
  obtain rfl : i = S.length := by omega
  rw [List.take_of_length_le (by omega)]
  clear hlast
  obtain ⟨kc, hkc⟩ : ∃ kc : Nat, (if (8 : Int) < (cs.length : Int) then 8 else (cs.length : Int)) = (kc : Int) := ⟨min cs.length 8, by split <;> omega⟩
  have hkl : (cs.take 8).length = kc := by rw [List.length_take]; split at hkc <;> omega
  obtain ⟨_, _, ec, hC⟩ := hc.take (n := 8)
  cases ec
  obtain ⟨C8, hC8⟩ : ∃ l, cs.take 8 = l := ⟨_, rfl⟩
  rw [hC8] at hC hkl
  subst hkl
  have hC1 : 1 ≤ C8.length ∧ C8.length ≤ 8 ∧ C8.length ≤ cc := by split at hkc <;> omega
  repeat' (first | ((with_reducible apply o_minV); exact rfl; exact rfl; exact hkc; exact rfl) | ((with_reducible apply o_sliceH (h' := C8.length)); infer_instance; infer_instance; exact rfl; exact rfl; (exact .inr ⟨_, rfl⟩); omega; exact rfl) | ((with_reducible first | apply o_move | apply o_assign | apply o_faddr0 | apply o_conv); exact rfl; exact rfl) | ((with_reducible first | apply o_lss | apply o_leq | apply o_gtr | apply o_eql | apply o_neq | apply o_extract | apply o_min2 | apply o_max2); exact rfl; exact rfl; exact rfl) | ((with_reducible apply o_len); infer_instance; exact rfl; exact rfl) | ((with_reducible first | apply c_seq | apply c_block | apply c_region | apply c_nil | apply c_ret | apply c_exit | apply c_skip)) | ((with_reducible apply c_cond_f); exact rfl; exact fF_) | ((with_reducible first | apply e_then | apply e_then_ret | apply e_then_exit | apply e_in | apply e_in_ret | apply e_in_same)))
  apply c_loop (σ := Nat × (Option Addr × Nat) × List Ent) (Fs := fun t => [(109, .int .i64 t.1), (108, .int .i64 C8.length), (107, .slice ac C8.length cc), (17, .slice t.2.1.1 (Top.roomL (C8.take t.1)).length t.2.1.2), (11, .map (some b11)), (10, .slice (some ⟨bR, 0, none⟩) R.length cR), (3, .slice am ml.length cm)])
    (Ls := fun t => t.2.2 ++ (⟨b11, MO (MM kI kI (Top.atL R)), true⟩ :: ⟨bR, Ce (R.flatMap encI ++ sR) 3, true⟩ :: []))
    (I := fun t => t.1 ≤ C8.length ∧ OW 3 1 encI (.slice t.2.1.1 (Top.roomL (C8.take t.1)).length t.2.1.2) (Top.roomL (C8.take t.1)) t.2.2) (μ := fun t => C8.length - t.1) (s0 := (0, (none, 0), []))
  · exact ⟨Nat.zero_le _, OW.nil⟩
  · exact fS_
  · exact hS_
  rintro ⟨i, ⟨am2, cm2⟩, NM⟩ ⟨hi, hOM⟩
  dsimp only at hi hOM ⊢
  have oM := hOM.own
  have hrl8 : (Top.roomL (C8.take i)).length ≤ 8 := by rw [Top.roomL_len, List.length_take]; omega
  by_cases hlt : i < C8.length
  · obtain ⟨y, hy⟩ : ∃ y, C8[i]? = some y := ⟨_, List.getElem?_eq_getElem hlt⟩
    obtain ⟨b5, o5, rfl⟩ := SV.ptr hC hy
    have hyl := y.toNat_lt
    have e1 : Top.roomL (C8.take (i + 1)) = Top.roomL (C8.take i) ++ [1 + (y.toNat : Int) % 40] := by rw [take_snoc hy, Top.roomL_snoc]
    as_aux_lemma =>
      repeat' (first | ((with_reducible apply c_cond_t); exact rfl; exact decide_eq_true (by omega)) | ((with_reducible apply o_ldP (v := .int .u8 (y.toNat : Int))); infer_instance; exact rfl; (intro w' hw'; exact SV.cell1 (hC.keep hw' (by exact aO_)) hy rfl); exact rfl) | ((with_reducible apply o_conv8); infer_instance; infer_instance; exact rfl; (constructor <;> omega); exact rfl) | ((with_reducible apply o_remE (v := (y.toNat : Int) % 40)); exact rfl; exact rfl; exact rfl; omega; exact rfl) | (apply o_appH (enc := encI) (ys := [(1 + (y.toNat : Int) % 40)]); infer_instance; infer_instance; infer_instance; exact rfl; exact encI_len; exact encI_one; exact rfl; exact rfl; exact rfl; assumption; exact rL_; (exact fun w hw => SV.lit [(1 + (y.toNat : Int) % 40)] encI_len hw (by exact aT_) rfl rfl (by decide)); (first | decide | (constructor <;> (try simp only [List.length_cons, List.length_nil]) <;> omega) | (constructor <;> simp <;> omega)); intro a_ cp_ N_ hO_; have oN_ := hO_.own; (try simp only [List.nil_append, List.append_assoc] at hO_); (try simp only [List.append_eq, List.append_assoc, List.cons_append, List.nil_append])) | ((with_reducible first | apply o_move | apply o_assign | apply o_faddr0 | apply o_conv); exact rfl; exact rfl) | ((with_reducible first | apply o_lss | apply o_leq | apply o_gtr | apply o_eql | apply o_neq | apply o_extract | apply o_min2 | apply o_max2); exact rfl; exact rfl; exact rfl) | ((with_reducible first | apply o_add | apply o_sub); exact rfl; exact rfl; exact rfl; (constructor <;> omega)) | ((with_reducible apply gdo_buildSlice); refine wo_buildSlice (h := fun _ => ?_)) | ((with_reducible apply o_idx); infer_instance; infer_instance; exact rfl; exact rfl; (first | exact rfl | omega); exact rfl; (first | assumption | omega | decide)) | ((with_reducible first | apply c_seq | apply c_block | apply c_region | apply c_nil | apply c_ret | apply c_exit | apply c_skip)) | ((with_reducible first | apply e_then | apply e_then_ret | apply e_then_exit | apply e_in | apply e_in_ret | apply e_in_same)))
      rw [← e1] at hO_ ⊢
      refine l_again (i + 1, (a_, cp_), N_) ⟨by dsimp only; omega, hO_⟩ (by dsimp only; omega) ?_ ?_
      · exact fS_
      · exact hS_
  obtain rfl : i = C8.length := by omega
  rw [List.take_length] at hOM hrl8 ⊢
  obtain ⟨km, hkm⟩ : ∃ km : Nat, (if (60 : Int) < (ml.length : Int) then 60 else (ml.length : Int)) = (km : Int) := ⟨min ml.length 60, by split <;> omega⟩
  have hml : (ml.take 60).length = km := by rw [List.length_take]; split at hkm <;> omega
  obtain ⟨_, _, em, hM⟩ := hm.take (n := 60)
  cases em
  obtain ⟨M, hM0⟩ : ∃ l, ml.take 60 = l := ⟨_, rfl⟩
  rw [hM0] at hM hml
  subst hml
  have hM1 : M.length ≤ 60 ∧ M.length ≤ cm := by split at hkm <;> omega
  repeat' (first | ((with_reducible apply o_minV); exact rfl; exact rfl; exact hkm; exact rfl) | ((with_reducible apply o_sliceH (h' := M.length)); infer_instance; infer_instance; exact rfl; exact rfl; (exact .inr ⟨_, rfl⟩); omega; exact rfl) | ((with_reducible first | apply o_move | apply o_assign | apply o_faddr0 | apply o_conv); exact rfl; exact rfl) | ((with_reducible first | apply o_lss | apply o_leq | apply o_gtr | apply o_eql | apply o_neq | apply o_extract | apply o_min2 | apply o_max2); exact rfl; exact rfl; exact rfl) | ((with_reducible apply o_len); infer_instance; exact rfl; exact rfl) | ((with_reducible apply gdo_makeSlice); refine wo_makeSlice (h := fun _ => ?_)) | ((with_reducible first | apply c_seq | apply c_block | apply c_region | apply c_nil | apply c_ret | apply c_exit | apply c_skip)) | ((with_reducible apply c_cond_f); exact rfl; exact fF_) | ((with_reducible first | apply e_then | apply e_then_ret | apply e_then_exit | apply e_in | apply e_in_ret | apply e_in_same)))
  rename_i bv
  simp only [zeros_row]
  apply c_loop (σ := Nat × (Option Addr × Nat) × List Ent) (Fs := fun t => [(130, .int .i64 t.1), (129, .int .i64 M.length), (128, .slice am M.length cm), (20, slc bv R.length), (21, .slice t.2.1.1 (Top.itT R (M.take t.1)).length t.2.1.2), (17, .slice am2 (Top.roomL C8).length cm2), (11, .map (some b11)), (10, .slice (some ⟨bR, 0, none⟩) R.length cR)])
    (Ls := fun t => t.2.2 ++ (⟨bv, Ce ((Top.volT R.length (M.take t.1)).flatMap encI ++ []) 3, true⟩ :: (NM ++ (⟨b11, MO (MM kI kI (Top.atL R)), true⟩ :: ⟨bR, Ce (R.flatMap encI ++ sR) 3, true⟩ :: []))))
    (I := fun t => t.1 ≤ M.length ∧ OW 45 4 encIt (.slice t.2.1.1 (Top.itT R (M.take t.1)).length t.2.1.2) (Top.itT R (M.take t.1)) t.2.2) (μ := fun t => M.length - t.1) (s0 := (0, (none, 0), []))
  · exact ⟨Nat.zero_le _, OW.nil⟩
  · exact fS_
  · dsimp only; rw [List.take_zero, Top.volT_nil]; exact hS_
  rintro ⟨i, ⟨ai, ci⟩, NI⟩ ⟨hi, hOI⟩
  dsimp only at hi hOI ⊢
  have oI := hOI.own
  have hil : (Top.itT R (M.take i)).length = i := by rw [Top.itT_len, List.length_take]; omega
  by_cases hlt : i < M.length
  · obtain ⟨y, hy⟩ : ∃ y, M[i]? = some y := ⟨_, List.getElem?_eq_getElem hlt⟩
    obtain ⟨b5, o5, rfl⟩ := SV.ptr hM hy
    have hyl := y.toNat_lt
    obtain ⟨s, hs⟩ : ∃ s, y.toNat % R.length = s := ⟨_, rfl⟩
    have hsl : s < R.length := by rw [← hs]; exact Nat.mod_lt _ (by omega)
    have hmod : (y.toNat : Int) % (R.length : Int) = (s : Int) := by rw [← hs]; exact (Int.natCast_emod _ _).symm
    have hvl := Top.volT_len R.length (M.take i)
    have hvb := Top.volT_le R.length hsl (M.take i)
    have htl : (M.take i).length = i := by rw [List.length_take]; omega
    obtain ⟨v, hv⟩ : ∃ v, (Top.volT R.length (M.take i)).getD s 0 = v := ⟨_, rfl⟩
    rw [hv, htl] at hvb
    have z1 : (Top.volT R.length (M.take i))[s]? = some v := by
      rw [List.getD_eq_getElem?_getD] at hv
      rw [List.getElem?_eq_getElem (by omega)] at hv ⊢
      exact congrArg some hv
    have hV2 : (Top.volT R.length (M.take i)).set s (v + 1) = Top.volT R.length (M.take (i + 1)) := by
      rw [take_snoc hy, Top.volT_snoc, hs, Seq.addAt, hv]
    obtain ⟨rx, hrx⟩ : ∃ x, R[s]? = some x := ⟨_, List.getElem?_eq_getElem hsl⟩
    have hrx2 : R.getD (y.toNat % R.length) 0 = rx := by rw [hs, List.getD_eq_getElem?_getD, hrx]; rfl
    have g1 := (Pat.flat encI_len (Top.volT R.length (M.take i)) []).one z1 rfl
    have g2 := (Pat.flat encI_len R sR).one hrx rfl
    have e1 : Top.itT R (M.take (i + 1)) = Top.itT R (M.take i) ++ [⟨(i : Int) + 1, rx, decide ((y.toNat : Int) % 11 ≠ 0), decide ((y.toNat : Int) % 13 ≠ 0)⟩] := by
      rw [take_snoc hy, Top.itT_snoc, htl, Top.itB, hrx2]
    as_aux_lemma =>
      repeat' (first | ((with_reducible apply c_cond_t); exact rfl; exact decide_eq_true (by omega)) | ((with_reducible apply o_ldP (v := .int .u8 (y.toNat : Int))); infer_instance; exact rfl; (intro w' hw'; exact SV.cell1 (hM.keep hw' (by exact aO_)) hy rfl); exact rfl) | ((with_reducible apply o_conv8); infer_instance; infer_instance; exact rfl; (constructor <;> omega); exact rfl) | ((with_reducible apply o_remE (v := (s : Int))); exact rfl; exact rfl; exact hmod; omega; exact rfl) | (apply o_storeT (enc := encI) (k := 1) (m := s) (o := 0) (xs := (Top.volT R.length (M.take i))) (v + 1) (hV2); infer_instance; exact rfl; exact rfl; exact aT_; exact (z1); exact encI_len; omega; exact rfl; exact rfl; (intro u hu; simp at hu; first | (subst hu; rfl) | (rcases hu with rfl | rfl <;> rfl) | (rcases hu with rfl | rfl | rfl <;> rfl) | (rcases hu with rfl | rfl | rfl | rfl <;> rfl)); (first | decide | exact Nat.le_refl _ | (simp only [List.length_cons, List.length_nil]; decide)); exact rfl; exact uP_) | ((with_reducible apply o_rem8E' (v := (y.toNat : Int) % 11)); exact rfl; exact rfl; exact rfl; omega; exact rfl) | ((with_reducible apply o_rem8E' (v := (y.toNat : Int) % 13)); exact rfl; exact rfl; exact rfl; omega; exact rfl) | (apply o_appH (enc := encIt) (ys := [(⟨(i : Int) + 1, rx, decide ((y.toNat : Int) % 11 ≠ 0), decide ((y.toNat : Int) % 13 ≠ 0)⟩ : Srt.It)]); infer_instance; infer_instance; infer_instance; exact rfl; exact encIt_len; exact encIt_one; exact rfl; exact rfl; exact rfl; assumption; exact rL_; (exact fun w hw => SV.lit [(⟨(i : Int) + 1, rx, decide ((y.toNat : Int) % 11 ≠ 0), decide ((y.toNat : Int) % 13 ≠ 0)⟩ : Srt.It)] encIt_len hw (by exact aT_) rfl rfl (by decide)); (first | decide | (constructor <;> (try simp only [List.length_cons, List.length_nil]) <;> omega) | (constructor <;> simp <;> omega)); intro a_ cp_ N_ hO_; have oN_ := hO_.own; (try simp only [List.nil_append, List.append_assoc] at hO_); (try simp only [List.append_eq, List.append_assoc, List.cons_append, List.nil_append])) | ((with_reducible first | apply o_move | apply o_assign | apply o_faddr0 | apply o_conv); exact rfl; exact rfl) | ((with_reducible apply gdo_load); first | refine wo_load (h := ?_) | refine wo_loadAll (h := ?_) | refine wo_loadC (h := ?_) | refine wo_ldV (h := ?_)) | ((with_reducible first | apply o_lss | apply o_leq | apply o_gtr | apply o_eql | apply o_neq | apply o_extract | apply o_min2 | apply o_max2); exact rfl; exact rfl; exact rfl) | ((with_reducible first | apply o_add | apply o_sub); exact rfl; exact rfl; exact rfl; (constructor <;> omega)) | ((with_reducible apply gdo_build); first | refine wo_build (h := ?_) | refine wo_buildA (h := ?_)) | ((with_reducible apply o_len); infer_instance; exact rfl; exact rfl) | ((with_reducible apply gdo_buildSlice); refine wo_buildSlice (h := fun _ => ?_)) | ((with_reducible apply o_idx); infer_instance; infer_instance; exact rfl; exact rfl; (first | exact rfl | omega); exact rfl; (first | assumption | omega | decide)) | ((with_reducible first | apply c_seq | apply c_block | apply c_region | apply c_nil | apply c_ret | apply c_exit | apply c_skip)) | ((with_reducible first | apply e_then | apply e_then_ret | apply e_then_exit | apply e_in | apply e_in_ret | apply e_in_same)))
      rw [← e1] at hO_ ⊢
      refine l_again (i + 1, (a_, cp_), N_) ⟨by dsimp only; omega, hO_⟩ (by dsimp only; omega) ?_ ?_
      · exact fS_
      · exact hS_
  obtain rfl : i = M.length := by omega
  rw [List.take_length] at hOI hil ⊢
  repeat' (first | ((with_reducible first | apply o_move | apply o_assign | apply o_faddr0 | apply o_conv); exact rfl; exact rfl) | ((with_reducible first | apply o_lss | apply o_leq | apply o_gtr | apply o_eql | apply o_neq | apply o_extract | apply o_min2 | apply o_max2); exact rfl; exact rfl; exact rfl) | ((with_reducible apply o_len); infer_instance; exact rfl; exact rfl) | ((with_reducible first | apply c_seq | apply c_block | apply c_region | apply c_nil | apply c_ret | apply c_exit | apply c_skip)) | ((with_reducible apply c_cond_f); exact rfl; exact fF_) | ((with_reducible first | apply e_then | apply e_then_ret | apply e_then_exit | apply e_in | apply e_in_ret | apply e_in_same)))
  apply c_loop (σ := Nat × (Option Addr × Nat) × List Ent) (Fs := fun t => [(165, .int .i64 t.1), (164, .int .i64 R.length), (163, .slice (some ⟨bR, 0, none⟩) R.length cR), (25, .slice t.2.1.1 (Top.stT (R.take t.1) (Top.volT R.length M)).length t.2.1.2), (20, slc bv R.length), (21, .slice ai (Top.itT R M).length ci), (17, .slice am2 (Top.roomL C8).length cm2), (11, .map (some b11))])
    (Ls := fun t => t.2.2 ++ (NI ++ (⟨bv, Ce ((Top.volT R.length M).flatMap encI ++ []) 3, true⟩ :: (NM ++ (⟨b11, MO (MM kI kI (Top.atL R)), true⟩ :: ⟨bR, Ce (R.flatMap encI ++ sR) 3, true⟩ :: [])))))
    (I := fun t => t.1 ≤ R.length ∧ OW 48 2 encStop (.slice t.2.1.1 (Top.stT (R.take t.1) (Top.volT R.length M)).length t.2.1.2) (Top.stT (R.take t.1) (Top.volT R.length M)) t.2.2) (μ := fun t => R.length - t.1) (s0 := (0, (none, 0), []))
  · exact ⟨Nat.zero_le _, OW.nil⟩
  · exact fS_
  · exact hS_
  rintro ⟨i, ⟨as', cs'⟩, NQ⟩ ⟨hi, hOS⟩
  dsimp only at hi hOS ⊢
  have oS := hOS.own
  have hsl : (Top.stT (R.take i) (Top.volT R.length M)).length = i := by rw [Top.stT_len, List.length_take]; omega
  by_cases hlt : i < R.length
  · obtain ⟨x, hx⟩ : ∃ x, R[i]? = some x := ⟨_, List.getElem?_eq_getElem hlt⟩
    have hvl := Top.volT_len R.length M
    have hvb := Top.volT_le R.length hlt M
    obtain ⟨v, hv⟩ : ∃ v, (Top.volT R.length M).getD i 0 = v := ⟨_, rfl⟩
    rw [hv] at hvb
    have z1 : (Top.volT R.length M)[i]? = some v := by
      rw [List.getD_eq_getElem?_getD] at hv
      rw [List.getElem?_eq_getElem (by omega)] at hv ⊢
      exact congrArg some hv
    have htl : (R.take i).length = i := by rw [List.length_take]; omega
    have hmx : (if v < 1 then 1 else v) = max v 1 := by split <;> omega
    have g1 := (Pat.flat encI_len (Top.volT R.length M) []).one z1 rfl
    have g2 := (Pat.flat encI_len R sR).one hx rfl
    have e1 : Top.stT (R.take (i + 1)) (Top.volT R.length M) = Top.stT (R.take i) (Top.volT R.length M) ++ [⟨x, max v 1⟩] := by rw [take_snoc hx, Top.stT_snoc, htl, hv]
    as_aux_lemma =>
      repeat' (first | ((with_reducible apply c_cond_t); exact rfl; exact decide_eq_true (by omega)) | ((with_reducible apply o_maxV); exact rfl; exact rfl; exact hmx; exact rfl) | (apply o_appH (enc := encStop) (ys := [(⟨x, max v 1⟩ : Seq.Stop)]); infer_instance; infer_instance; infer_instance; exact rfl; exact encStop_len; exact encStop_one; exact rfl; exact rfl; exact rfl; assumption; exact rL_; (exact fun w hw => SV.lit [(⟨x, max v 1⟩ : Seq.Stop)] encStop_len hw (by exact aT_) rfl rfl (by decide)); (first | decide | (constructor <;> (try simp only [List.length_cons, List.length_nil]) <;> omega) | (constructor <;> simp <;> omega)); intro a_ cp_ N_ hO_; have oN_ := hO_.own; (try simp only [List.nil_append, List.append_assoc] at hO_); (try simp only [List.append_eq, List.append_assoc, List.cons_append, List.nil_append])) | ((with_reducible first | apply o_move | apply o_assign | apply o_faddr0 | apply o_conv); exact rfl; exact rfl) | ((with_reducible apply gdo_load); first | refine wo_load (h := ?_) | refine wo_loadAll (h := ?_) | refine wo_loadC (h := ?_) | refine wo_ldV (h := ?_)) | ((with_reducible first | apply o_lss | apply o_leq | apply o_gtr | apply o_eql | apply o_neq | apply o_extract | apply o_min2 | apply o_max2); exact rfl; exact rfl; exact rfl) | ((with_reducible first | apply o_add | apply o_sub); exact rfl; exact rfl; exact rfl; (constructor <;> omega)) | ((with_reducible apply gdo_build); first | refine wo_build (h := ?_) | refine wo_buildA (h := ?_)) | ((with_reducible apply gdo_buildSlice); refine wo_buildSlice (h := fun _ => ?_)) | ((with_reducible apply o_idx); infer_instance; infer_instance; exact rfl; exact rfl; (first | exact rfl | omega); exact rfl; (first | assumption | omega | decide)) | ((with_reducible first | apply c_seq | apply c_block | apply c_region | apply c_nil | apply c_ret | apply c_exit | apply c_skip)) | ((with_reducible first | apply e_then | apply e_then_ret | apply e_then_exit | apply e_in | apply e_in_ret | apply e_in_same)))
      rw [← e1] at hO_ ⊢
      refine l_again (i + 1, (a_, cp_), N_) ⟨by dsimp only; omega, hO_⟩ (by dsimp only; omega) ?_ ?_
      · exact fS_
      · exact hS_
  obtain rfl : i = R.length := by omega
  rw [List.take_length] at hOS hsl ⊢
  clear hkc hkm hC hM hC8 hM0 hc hm hcc hcm
  have hrt := Top.stT_route (ml := M) hRnd hRid hM1.1
  have hmo := Top.roomL_ok (cs := C8) ⟨hC1.1, hC1.2.1⟩
  rcases Seq.makeF_spec hmo hrt (by omega) with he | ⟨p, he, hg⟩
  · as_aux_lemma =>
      repeat' (first | ((with_reducible apply c_cond_t); exact rfl; exact decide_eq_true (by omega)) | ((with_reducible apply c_cond_f); exact rfl; exact decide_eq_false (by omega)) | ((first | ((with_reducible apply o_call_new (f := 8)); exact rfl) | ((with_reducible apply q_call_new (f := 8)); exact rfl; exact rfl; exact sJ_)); exact eV_; exact (fun w hw => make_calls' he w (hOS.sv encStop_len (by exact rL_) hw) (hOM.sv encI_len (by exact rL_) hw)); rintro v N ⟨d1, f1, d2, f2, d3, f3, d4, f4, G1, G2, G3, G4, rfl, e1, e2, e3, e4, rfl, r1, r2, r3, r4⟩ <;> (try simp only [List.cons_append, List.nil_append, List.append_assoc])) | ((first | ((with_reducible apply o_call_pure (f := 5)); exact rfl) | ((with_reducible apply q_call_pure (f := 5)); exact rfl; kernel_rfl; exact rfl; exact sJ_)); exact eV_; exact (fun w _ => sorting_calls w)) | ((with_reducible first | apply o_move | apply o_assign | apply o_faddr0 | apply o_conv); exact rfl; exact rfl) | ((with_reducible first | apply o_lss | apply o_leq | apply o_gtr | apply o_eql | apply o_neq | apply o_extract | apply o_min2 | apply o_max2); exact rfl; exact rfl; exact rfl) | ((with_reducible first | apply o_alloc | apply o_makeMap0); exact rfl; intro _) | ((with_reducible apply gdo_store); first | refine wo_store1 (h := ?_) | refine wo_storeA (h := ?_)) | ((with_reducible first | apply c_seq | apply c_block | apply c_region | apply c_nil | apply c_ret | apply c_exit | apply c_skip)) | ((with_reducible first | apply e_then | apply e_then_ret | apply e_then_exit | apply e_in | apply e_in_ret | apply e_in_same)))
      apply r_body; apply res1 Try.results3; exact rV_; intro w' hw
      exact ⟨rfl, hw.below (show AO _ from by exact aO_)⟩
  have hmd : Top.Made R C8 M p := ⟨hRnd, hRid, hM1.1, by omega, ⟨hC1.1, hC1.2.1⟩, hg⟩
  have hck := hg.check hmo hrt (by omega)
  have htw := hmd.two
  have hov := hmd.over
  obtain ⟨hov1, hov2⟩ := hov
  have hrml := Top.roomL_len C8
  repeat' (first | ((first | ((with_reducible apply o_call_new (f := 8)); exact rfl) | ((with_reducible apply q_call_new (f := 8)); exact rfl; exact rfl; exact sJ_)); exact eV_; exact (fun w hw => make_calls' he w (hOS.sv encStop_len (by exact rL_) hw) (hOM.sv encI_len (by exact rL_) hw)); rintro v N ⟨d1, f1, d2, f2, d3, f3, d4, f4, G1, G2, G3, G4, rfl, e1, e2, e3, e4, rfl, r1, r2, r3, r4⟩ <;> (try simp only [List.cons_append, List.nil_append, List.append_assoc])) | ((first | ((with_reducible apply o_call_pure (f := 9)); exact rfl) | ((with_reducible apply q_call_pure (f := 9)); exact rfl; kernel_rfl; exact rfl; exact sJ_)); exact eV_; exact (fun w hw => check_calls' hck w (PV.mk (e1.sv encI_len (by exact rL_) hw) (e2.sv encSeat_len (by exact rL_) hw) (e3.sv encI_len (by exact rL_) hw) (e4.sv encI_len (by exact rL_) hw)))) | ((first | ((with_reducible apply o_call_new (f := 10)); exact rfl) | ((with_reducible apply q_call_new (f := 10)); exact rfl; exact rfl; exact sJ_)); exact eV_; exact (fun w hw => two_calls' htw w (PV.mk (e1.sv encI_len (by exact rL_) hw) (e2.sv encSeat_len (by exact rL_) hw) (e3.sv encI_len (by exact rL_) hw) (e4.sv encI_len (by exact rL_) hw)) (hOI.sv encIt_len (by exact rL_) hw)); rintro v N ⟨x1, y1, x2, y2, x3, y3, x4, y4, x5, y5, z1, t1, z2, t2, z3, t3, z4, t4, z5, t5, ao, co, ss, tt, N1, M1, N2, N3, N4, N5, P1, O1, P2, P3, P4, P5, NO, rfl, g1, g2, g3, g4, g5, g6, k1, k2, k3, k4, k5, k6, k7, rfl, p1, p2, p3, p4, p5, p6, q1, q2, q3, q4, q5, q6, q7⟩ <;> (try simp only [List.cons_append, List.nil_append, List.append_assoc])) | ((with_reducible apply c_cond_f); exact rfl; exact decide_eq_false (by omega)) | ((with_reducible apply o_pick_f); exact rfl; exact decide_eq_false (by omega); exact rfl; exact rfl) | ((with_reducible apply g_run); exact rfl; exact decide_eq_false (by omega)) | ((with_reducible apply o_ldV (k := 5) (l := [.slice x1 (Srt.pass1 p 0 (Top.itT R M)).stackers.length y1, .slice x2 (Srt.pass1 p 0 (Top.itT R M)).swept.length y2, .slice x3 (Srt.pass1 p 0 (Top.itT R M)).over.length y3, .slice x4 (Srt.pass1 p 0 (Top.itT R M)).rej.length y4, .slice x5 (Srt.pass1 p 0 (Top.itT R M)).evs.length y5])); infer_instance; infer_instance; exact rfl; exact kN_; (intro j v hj; rcases j with _ | _ | _ | _ | _ | j <;> simp_all); exact rfl; exact rfl) | ((with_reducible apply o_ldV (k := 5) (l := [.slice z1 (Srt.pass2 p 0 (Top.itT R M)).stackers.length t1, .slice z2 (Srt.pass2 p 0 (Top.itT R M)).swept.length t2, .slice z3 (Srt.pass2 p 0 (Top.itT R M)).over.length t3, .slice z4 (Srt.pass2 p 0 (Top.itT R M)).rej.length t4, .slice z5 (Srt.pass2 p 0 (Top.itT R M)).evs.length t5])); infer_instance; infer_instance; exact rfl; exact kN_; (intro j v hj; rcases j with _ | _ | _ | _ | _ | j <;> simp_all); exact rfl; exact rfl) | ((with_reducible first | apply o_move | apply o_assign | apply o_faddr0 | apply o_conv); exact rfl; exact rfl) | ((with_reducible first | apply o_faddr); exact rfl; exact rfl) | ((with_reducible apply gdo_load); first | refine wo_load (h := ?_) | refine wo_loadAll (h := ?_) | refine wo_loadC (h := ?_) | refine wo_ldV (h := ?_)) | ((with_reducible first | apply o_lss | apply o_leq | apply o_gtr | apply o_eql | apply o_neq | apply o_extract | apply o_min2 | apply o_max2); exact rfl; exact rfl; exact rfl) | ((with_reducible first | apply o_add | apply o_sub); exact rfl; exact rfl; exact rfl; (constructor <;> omega)) | ((with_reducible first | apply o_alloc | apply o_makeMap0); exact rfl; intro _) | ((with_reducible apply gdo_store); first | refine wo_store1 (h := ?_) | refine wo_storeA (h := ?_)) | ((with_reducible apply o_len); infer_instance; exact rfl; exact rfl) | ((with_reducible apply gdo_buildSlice); refine wo_buildSlice (h := fun _ => ?_)) | ((with_reducible first | apply c_seq | apply c_block | apply c_region | apply c_nil | apply c_ret | apply c_exit | apply c_skip)) | ((with_reducible first | apply e_then | apply e_then_ret | apply e_then_exit | apply e_in | apply e_in_ret | apply e_in_same)))
  rename_i b28 b32 bP
  have hs1 := g2.len
  have hs2 := k2.len
  have hst := hmd.stk
  have hps : ∀ (i : Nat) (x : SD × SD × SD × SD × SD), ([((x1, (Srt.pass1 p 0 (Top.itT R M)).stackers.length, y1), (x2, (Srt.pass1 p 0 (Top.itT R M)).swept.length, y2), (x3, (Srt.pass1 p 0 (Top.itT R M)).over.length, y3), (x4, (Srt.pass1 p 0 (Top.itT R M)).rej.length, y4), (x5, (Srt.pass1 p 0 (Top.itT R M)).evs.length, y5)), ((z1, (Srt.pass2 p 0 (Top.itT R M)).stackers.length, t1), (z2, (Srt.pass2 p 0 (Top.itT R M)).swept.length, t2), (z3, (Srt.pass2 p 0 (Top.itT R M)).over.length, t3), (z4, (Srt.pass2 p 0 (Top.itT R M)).rej.length, t4), (z5, (Srt.pass2 p 0 (Top.itT R M)).evs.length, t5))] : List (SD × SD × SD × SD × SD))[i]? = some x → ∃ sd : List SD, x.1.2.1 = sd.length ∧ sd.length = (Top.roomL C8).length ∧ (∀ (k : Nat) (d : SD) (c : Int), sd[k]? = some d → (Top.roomL C8)[k]? = some c → (d.2.1 : Int) ≤ c) ∧ ∀ w' : World, SV w' 1 encS (.slice x1 (Srt.pass1 p 0 (Top.itT R M)).stackers.length y1) ss → SV w' 1 encS (.slice z1 (Srt.pass2 p 0 (Top.itT R M)).stackers.length t1) tt → SV w' 1 encS (sdV x.1) sd := by
    intro i x hx
    rcases i with _ | _ | i
    · cases hx
      refine ⟨ss, hs1.symm, by omega, fun k d c hd hc => ?_, fun _ h _ => h⟩
      obtain ⟨l, hl⟩ : ∃ l, (Srt.pass1 p 0 (Top.itT R M)).stackers[k]? = some l := ⟨_, List.getElem?_eq_getElem (by have := (List.getElem?_eq_some_iff.1 hd).1; omega)⟩
      rw [g2.lens k d l hd hl]
      exact hmd.fits1 hl hc
    · cases hx
      refine ⟨tt, hs2.symm, by omega, fun k d c hd hc => ?_, fun _ _ h => h⟩
      obtain ⟨l, hl⟩ : ∃ l, (Srt.pass2 p 0 (Top.itT R M)).stackers[k]? = some l := ⟨_, List.getElem?_eq_getElem (by have := (List.getElem?_eq_some_iff.1 hd).1; omega)⟩
      rw [k2.lens k d l hd hl]
      exact hmd.fits2 hl hc
    · simp at hx
  apply c_loop (σ := Nat) (Fs := fun i => [(229, .int .i64 i), (228, .int .i64 2), (227, .slice (some ⟨bP, 0, none⟩) 2 2), (32, ptr b32), (21, .slice ai (Top.itT R M).length ci), (17, .slice am2 (Top.roomL C8).length cm2), (11, .map (some b11))]) (Ls := fun i => ⟨bP, Ce [.slice x1 (Srt.pass1 p 0 (Top.itT R M)).stackers.length y1, .slice x2 (Srt.pass1 p 0 (Top.itT R M)).swept.length y2, .slice x3 (Srt.pass1 p 0 (Top.itT R M)).over.length y3, .slice x4 (Srt.pass1 p 0 (Top.itT R M)).rej.length y4, .slice x5 (Srt.pass1 p 0 (Top.itT R M)).evs.length y5, .slice z1 (Srt.pass2 p 0 (Top.itT R M)).stackers.length t1, .slice z2 (Srt.pass2 p 0 (Top.itT R M)).swept.length t2, .slice z3 (Srt.pass2 p 0 (Top.itT R M)).over.length t3, .slice z4 (Srt.pass2 p 0 (Top.itT R M)).rej.length t4, .slice z5 (Srt.pass2 p 0 (Top.itT R M)).evs.length t5] 60, true⟩ :: ⟨b32, Ce [.slice x1 (Srt.pass1 p 0 (Top.itT R M)).stackers.length y1, .slice x2 (Srt.pass1 p 0 (Top.itT R M)).swept.length y2, .slice x3 (Srt.pass1 p 0 (Top.itT R M)).over.length y3, .slice x4 (Srt.pass1 p 0 (Top.itT R M)).rej.length y4, .slice x5 (Srt.pass1 p 0 (Top.itT R M)).evs.length y5, .slice z1 (Srt.pass2 p 0 (Top.itT R M)).stackers.length t1, .slice z2 (Srt.pass2 p 0 (Top.itT R M)).swept.length t2, .slice z3 (Srt.pass2 p 0 (Top.itT R M)).over.length t3, .slice z4 (Srt.pass2 p 0 (Top.itT R M)).rej.length t4, .slice z5 (Srt.pass2 p 0 (Top.itT R M)).evs.length t5, .slice ao (Srt.orderF p 0 (Top.itT R M)).length co] 62, true⟩ :: (N1 ++ (P1 ++ (NO ++ (NI ++ (NM ++ (⟨b11, MO (MM kI kI (Top.atL R)), true⟩ :: []))))))) (I := fun i => i ≤ 2) (μ := fun i => 2 - i) (s0 := 0)
  · exact Nat.zero_le _
  · exact fS_
  · exact hS_
  intro i hi
  have hi : i ≤ 2 := hi
  by_cases hlt : i < 2
  · obtain ⟨x, hx⟩ : ∃ x, ([((x1, (Srt.pass1 p 0 (Top.itT R M)).stackers.length, y1), (x2, (Srt.pass1 p 0 (Top.itT R M)).swept.length, y2), (x3, (Srt.pass1 p 0 (Top.itT R M)).over.length, y3), (x4, (Srt.pass1 p 0 (Top.itT R M)).rej.length, y4), (x5, (Srt.pass1 p 0 (Top.itT R M)).evs.length, y5)), ((z1, (Srt.pass2 p 0 (Top.itT R M)).stackers.length, t1), (z2, (Srt.pass2 p 0 (Top.itT R M)).swept.length, t2), (z3, (Srt.pass2 p 0 (Top.itT R M)).over.length, t3), (z4, (Srt.pass2 p 0 (Top.itT R M)).rej.length, t4), (z5, (Srt.pass2 p 0 (Top.itT R M)).evs.length, t5))] : List (SD × SD × SD × SD × SD))[i]? = some x := ⟨_, List.getElem?_eq_getElem hlt⟩
    obtain ⟨sd, hn, hsl8, hfit, hsh⟩ := hps i x hx
    obtain ⟨⟨u, n, y⟩, ⟨u2, n2, y2'⟩, ⟨u3, n3, y3'⟩, ⟨u4, n4, y4'⟩, ⟨u5, n5, y5'⟩⟩ := x
    dsimp only at hn hsh
    subst hn
    as_aux_lemma =>
      repeat' (first | ((with_reducible apply c_cond_t); exact rfl; exact decide_eq_true (by omega)) | ((with_reducible apply c_cond_f); exact rfl; exact decide_eq_false (by omega)) | ((with_reducible apply o_ldPV (l := [.slice u sd.length y, .slice u2 n2 y2', .slice u3 n3 y3', .slice u4 n4 y4', .slice u5 n5 y5'])); infer_instance; infer_instance; exact rfl; (intro w' hw' j' v' hj'; have hsv : SV w' 5 encP5 (.slice (some ⟨bP, 0, none⟩) 2 2) ([((x1, (Srt.pass1 p 0 (Top.itT R M)).stackers.length, y1), (x2, (Srt.pass1 p 0 (Top.itT R M)).swept.length, y2), (x3, (Srt.pass1 p 0 (Top.itT R M)).over.length, y3), (x4, (Srt.pass1 p 0 (Top.itT R M)).rej.length, y4), (x5, (Srt.pass1 p 0 (Top.itT R M)).evs.length, y5)), ((z1, (Srt.pass2 p 0 (Top.itT R M)).stackers.length, t1), (z2, (Srt.pass2 p 0 (Top.itT R M)).swept.length, t2), (z3, (Srt.pass2 p 0 (Top.itT R M)).over.length, t3), (z4, (Srt.pass2 p 0 (Top.itT R M)).rej.length, t4), (z5, (Srt.pass2 p 0 (Top.itT R M)).evs.length, t5))] : List (SD × SD × SD × SD × SD)) := SV.lit ([((x1, (Srt.pass1 p 0 (Top.itT R M)).stackers.length, y1), (x2, (Srt.pass1 p 0 (Top.itT R M)).swept.length, y2), (x3, (Srt.pass1 p 0 (Top.itT R M)).over.length, y3), (x4, (Srt.pass1 p 0 (Top.itT R M)).rej.length, y4), (x5, (Srt.pass1 p 0 (Top.itT R M)).evs.length, y5)), ((z1, (Srt.pass2 p 0 (Top.itT R M)).stackers.length, t1), (z2, (Srt.pass2 p 0 (Top.itT R M)).swept.length, t2), (z3, (Srt.pass2 p 0 (Top.itT R M)).over.length, t3), (z4, (Srt.pass2 p 0 (Top.itT R M)).rej.length, t4), (z5, (Srt.pass2 p 0 (Top.itT R M)).evs.length, t5))] : List (SD × SD × SD × SD × SD)) encP5_len hw' (by exact aT_) rfl rfl (by decide); exact SV.cell hsv hx hj'); exact rfl; exact rfl) | ((with_reducible first | apply o_move | apply o_assign | apply o_faddr0 | apply o_conv); exact rfl; exact rfl) | ((with_reducible apply gdo_load); first | refine wo_load (h := ?_) | refine wo_loadAll (h := ?_) | refine wo_loadC (h := ?_) | refine wo_ldV (h := ?_)) | ((with_reducible first | apply o_lss | apply o_leq | apply o_gtr | apply o_eql | apply o_neq | apply o_extract | apply o_min2 | apply o_max2); exact rfl; exact rfl; exact rfl) | ((with_reducible first | apply o_alloc | apply o_makeMap0); exact rfl; intro _) | ((with_reducible apply gdo_store); first | refine wo_store1 (h := ?_) | refine wo_storeA (h := ?_)) | ((with_reducible apply o_len); infer_instance; exact rfl; exact rfl) | ((with_reducible apply o_idx); infer_instance; infer_instance; exact rfl; exact rfl; (first | exact rfl | omega); exact rfl; (first | assumption | omega | decide)) | ((with_reducible first | apply c_seq | apply c_block | apply c_region | apply c_nil | apply c_ret | apply c_exit | apply c_skip)) | ((with_reducible first | apply e_then | apply e_then_ret | apply e_then_exit | apply e_in | apply e_in_ret | apply e_in_same)))
      rename_i b35
      apply c_loop (σ := Nat) (Fs := fun k => [(242, .int .i64 k), (241, .int .i64 sd.length), (240, .slice u sd.length y), (229, .int .i64 i), (228, .int .i64 2), (227, .slice (some ⟨bP, 0, none⟩) 2 2), (32, ptr b32), (21, .slice ai (Top.itT R M).length ci), (17, .slice am2 (Top.roomL C8).length cm2), (11, .map (some b11))]) (Ls := fun _ => ⟨bP, Ce [.slice x1 (Srt.pass1 p 0 (Top.itT R M)).stackers.length y1, .slice x2 (Srt.pass1 p 0 (Top.itT R M)).swept.length y2, .slice x3 (Srt.pass1 p 0 (Top.itT R M)).over.length y3, .slice x4 (Srt.pass1 p 0 (Top.itT R M)).rej.length y4, .slice x5 (Srt.pass1 p 0 (Top.itT R M)).evs.length y5, .slice z1 (Srt.pass2 p 0 (Top.itT R M)).stackers.length t1, .slice z2 (Srt.pass2 p 0 (Top.itT R M)).swept.length t2, .slice z3 (Srt.pass2 p 0 (Top.itT R M)).over.length t3, .slice z4 (Srt.pass2 p 0 (Top.itT R M)).rej.length t4, .slice z5 (Srt.pass2 p 0 (Top.itT R M)).evs.length t5] 60, true⟩ :: ⟨b32, Ce [.slice x1 (Srt.pass1 p 0 (Top.itT R M)).stackers.length y1, .slice x2 (Srt.pass1 p 0 (Top.itT R M)).swept.length y2, .slice x3 (Srt.pass1 p 0 (Top.itT R M)).over.length y3, .slice x4 (Srt.pass1 p 0 (Top.itT R M)).rej.length y4, .slice x5 (Srt.pass1 p 0 (Top.itT R M)).evs.length y5, .slice z1 (Srt.pass2 p 0 (Top.itT R M)).stackers.length t1, .slice z2 (Srt.pass2 p 0 (Top.itT R M)).swept.length t2, .slice z3 (Srt.pass2 p 0 (Top.itT R M)).over.length t3, .slice z4 (Srt.pass2 p 0 (Top.itT R M)).rej.length t4, .slice z5 (Srt.pass2 p 0 (Top.itT R M)).evs.length t5, .slice ao (Srt.orderF p 0 (Top.itT R M)).length co] 62, true⟩ :: (N1 ++ (P1 ++ (NO ++ (NI ++ (NM ++ (⟨b11, MO (MM kI kI (Top.atL R)), true⟩ :: []))))))) (I := fun k => k ≤ sd.length) (μ := fun k => sd.length - k) (s0 := 0)
      · exact Nat.zero_le _
      · exact fS_
      · exact hS_
      intro k hk
      have hk : k ≤ sd.length := hk
      by_cases hlk : k < sd.length
      · obtain ⟨⟨da, dn, dc⟩, hd⟩ : ∃ x, sd[k]? = some x := ⟨_, List.getElem?_eq_getElem hlk⟩
        obtain ⟨c, hc⟩ : ∃ x, (Top.roomL C8)[k]? = some x := ⟨_, List.getElem?_eq_getElem (by omega)⟩
        have hdc := hfit k _ c hd hc
        dsimp only at hdc
        refine st_know (fun w' hw' => SV.ptr (hOM.sv encI_len (by exact rL_) hw') hc) ?_
        rintro ⟨bm, om, rfl⟩
        refine st_know (fun w' hw' => SV.ptr (hsh w' (g1.sv encS_len (by exact rL_) hw') (k1.sv encS_len (by exact rL_) hw')) hd) ?_
        rintro ⟨bu, ou, rfl⟩
        as_aux_lemma =>
          repeat' (first | ((with_reducible apply c_cond_t); exact rfl; exact decide_eq_true (by omega)) | ((with_reducible apply c_cond_f); exact rfl; exact decide_eq_false (by omega)) | ((with_reducible apply o_ldP (v := .slice da dn dc)); infer_instance; exact rfl; (intro w' hw'; exact SV.cell1 (hsh w' (g1.sv encS_len (by exact rL_) hw') (k1.sv encS_len (by exact rL_) hw')) hd rfl); exact rfl) | ((with_reducible apply o_ldP (v := .int .i64 c)); infer_instance; exact rfl; (intro w' hw'; exact SV.cell1 (hOM.sv encI_len (by exact rL_) hw') hc rfl); exact rfl) | ((with_reducible first | apply o_move | apply o_assign | apply o_faddr0 | apply o_conv); exact rfl; exact rfl) | ((with_reducible first | apply o_lss | apply o_leq | apply o_gtr | apply o_eql | apply o_neq | apply o_extract | apply o_min2 | apply o_max2); exact rfl; exact rfl; exact rfl) | ((with_reducible first | apply o_add | apply o_sub); exact rfl; exact rfl; exact rfl; (constructor <;> omega)) | ((with_reducible apply o_len); infer_instance; exact rfl; exact rfl) | ((with_reducible apply o_idx); infer_instance; infer_instance; exact rfl; exact rfl; (first | exact rfl | omega); exact rfl; (first | assumption | omega | decide)) | ((with_reducible first | apply c_seq | apply c_block | apply c_region | apply c_nil | apply c_ret | apply c_exit | apply c_skip)) | ((with_reducible first | apply e_then | apply e_then_ret | apply e_then_exit | apply e_in | apply e_in_ret | apply e_in_same)))
          refine l_again (k + 1) (show k + 1 ≤ sd.length by omega) (show sd.length - (k + 1) < sd.length - k by omega) ?_ ?_
          · exact fS_
          · exact hS_
      obtain rfl : k = sd.length := by omega
      repeat' (first | ((with_reducible apply c_cond_f); exact rfl; exact decide_eq_false (by omega)) | ((with_reducible first | apply o_move | apply o_assign | apply o_faddr0 | apply o_conv); exact rfl; exact rfl) | ((with_reducible first | apply o_lss | apply o_leq | apply o_gtr | apply o_eql | apply o_neq | apply o_extract | apply o_min2 | apply o_max2); exact rfl; exact rfl; exact rfl) | ((with_reducible first | apply o_add | apply o_sub); exact rfl; exact rfl; exact rfl; (constructor <;> omega)) | ((with_reducible first | apply c_seq | apply c_block | apply c_region | apply c_nil | apply c_ret | apply c_exit | apply c_skip)) | ((with_reducible first | apply e_then | apply e_then_ret | apply e_then_exit | apply e_in | apply e_in_ret | apply e_in_same)))
      refine l_again (i + 1) (show i + 1 ≤ 2 by omega) (show 2 - (i + 1) < 2 - i by omega) ?_ ?_
      · exact fS_
      · exact hS_
  clear hps
  repeat' (first | ((with_reducible apply c_cond_f); exact rfl; exact decide_eq_false (by omega)) | ((with_reducible first | apply o_move | apply o_assign | apply o_faddr0 | apply o_conv); exact rfl; exact rfl) | ((with_reducible first | apply o_lss | apply o_leq | apply o_gtr | apply o_eql | apply o_neq | apply o_extract | apply o_min2 | apply o_max2); exact rfl; exact rfl; exact rfl) | ((with_reducible apply o_len); infer_instance; exact rfl; exact rfl) | ((with_reducible first | apply c_seq | apply c_block | apply c_region | apply c_nil | apply c_ret | apply c_exit | apply c_skip)) | ((with_reducible first | apply e_then | apply e_then_ret | apply e_then_exit | apply e_in | apply e_in_ret | apply e_in_same)))
  apply c_loop (σ := Nat) (Fs := fun i => [(258, .int .i64 i), (257, .int .i64 (Top.itT R M).length), (256, .slice ai (Top.itT R M).length ci), (38, .int .i64 (Top.readN ((Top.itT R M).take i))), (32, ptr b32), (21, .slice ai (Top.itT R M).length ci), (11, .map (some b11))]) (Ls := fun i => ⟨b32, Ce [.slice x1 (Srt.pass1 p 0 (Top.itT R M)).stackers.length y1, .slice x2 (Srt.pass1 p 0 (Top.itT R M)).swept.length y2, .slice x3 (Srt.pass1 p 0 (Top.itT R M)).over.length y3, .slice x4 (Srt.pass1 p 0 (Top.itT R M)).rej.length y4, .slice x5 (Srt.pass1 p 0 (Top.itT R M)).evs.length y5, .slice z1 (Srt.pass2 p 0 (Top.itT R M)).stackers.length t1, .slice z2 (Srt.pass2 p 0 (Top.itT R M)).swept.length t2, .slice z3 (Srt.pass2 p 0 (Top.itT R M)).over.length t3, .slice z4 (Srt.pass2 p 0 (Top.itT R M)).rej.length t4, .slice z5 (Srt.pass2 p 0 (Top.itT R M)).evs.length t5, .slice ao (Srt.orderF p 0 (Top.itT R M)).length co] 62, true⟩ :: (NO ++ (NI ++ (⟨b11, MO (MM kI kI (Top.atL R)), true⟩ :: [])))) (I := fun i => i ≤ (Top.itT R M).length) (μ := fun i => (Top.itT R M).length - i) (s0 := 0)
  · exact Nat.zero_le _
  · exact fS_
  · exact hS_
  intro i hi
  have hi : i ≤ (Top.itT R M).length := hi
  by_cases hlt : i < (Top.itT R M).length
  · obtain ⟨⟨xi, xs, xf, xse⟩, hx⟩ : ∃ x, (Top.itT R M)[i]? = some x := ⟨_, List.getElem?_eq_getElem hlt⟩
    have hrn := Top.readN_le ((Top.itT R M).take i)
    rw [List.length_take] at hrn
    have e1 := Top.readN_snoc ((Top.itT R M).take i) ⟨xi, xs, xf, xse⟩
    rw [← take_snoc hx] at e1
    refine st_know (fun w' hw' => SV.ptr (hOI.sv encIt_len (by exact rL_) hw') hx) ?_
    rintro ⟨bi, oi, rfl⟩
    cases xf with
    | false =>
      rw [show Top.bothB ⟨xi, xs, false, xse⟩ = false from rfl, if_neg (by simp)] at e1
      as_aux_lemma =>
        repeat' (first | ((with_reducible apply c_cond_t); exact rfl; exact decide_eq_true (by omega)) | ((with_reducible apply o_ldPV (l := [.int .i64 xi, .int .i64 xs, .bool false, .bool xse ])); infer_instance; infer_instance; exact rfl; (intro w' hw' j' v' hj'; exact SV.cell (hOI.sv encIt_len (by exact rL_) hw') hx hj'); exact rfl; exact rfl) | ((with_reducible first | apply o_move | apply o_assign | apply o_faddr0 | apply o_conv); exact rfl; exact rfl) | ((with_reducible apply gdo_load); first | refine wo_load (h := ?_) | refine wo_loadAll (h := ?_) | refine wo_loadC (h := ?_) | refine wo_ldV (h := ?_)) | ((with_reducible first | apply o_lss | apply o_leq | apply o_gtr | apply o_eql | apply o_neq | apply o_extract | apply o_min2 | apply o_max2); exact rfl; exact rfl; exact rfl) | ((with_reducible first | apply o_add | apply o_sub); exact rfl; exact rfl; exact rfl; (constructor <;> omega)) | ((with_reducible apply o_pick_f); exact rfl; exact fF_; exact rfl; exact rfl) | ((with_reducible first | apply o_alloc | apply o_makeMap0); exact rfl; intro _) | ((with_reducible apply gdo_store); first | refine wo_store1 (h := ?_) | refine wo_storeA (h := ?_)) | ((with_reducible apply o_idx); infer_instance; infer_instance; exact rfl; exact rfl; (first | exact rfl | omega); exact rfl; (first | assumption | omega | decide)) | ((with_reducible apply g_skip); exact rfl; exact gG_; exact rfl) | ((with_reducible first | apply c_seq | apply c_block | apply c_region | apply c_nil | apply c_ret | apply c_exit | apply c_skip)) | ((with_reducible apply c_cond_f); exact rfl; exact fF_) | ((with_reducible first | apply e_then | apply e_then_ret | apply e_then_exit | apply e_in | apply e_in_ret | apply e_in_same)))
        refine l_again (i + 1) (show i + 1 ≤ (Top.itT R M).length by omega) (show (Top.itT R M).length - (i + 1) < (Top.itT R M).length - i by omega) ?_ ?_
        · (try dsimp only); rw [e1]; exact fS_
        · exact hS_
    | true =>
      cases xse with
      | false =>
        rw [show Top.bothB ⟨xi, xs, true, false⟩ = false from rfl, if_neg (by simp)] at e1
        as_aux_lemma =>
          repeat' (first | ((with_reducible apply c_cond_t); exact rfl; exact decide_eq_true (by omega)) | ((with_reducible apply o_ldPV (l := [.int .i64 xi, .int .i64 xs, .bool true, .bool false ])); infer_instance; infer_instance; exact rfl; (intro w' hw' j' v' hj'; exact SV.cell (hOI.sv encIt_len (by exact rL_) hw') hx hj'); exact rfl; exact rfl) | ((with_reducible first | apply o_move | apply o_assign | apply o_faddr0 | apply o_conv); exact rfl; exact rfl) | ((with_reducible apply gdo_load); first | refine wo_load (h := ?_) | refine wo_loadAll (h := ?_) | refine wo_loadC (h := ?_) | refine wo_ldV (h := ?_)) | ((with_reducible first | apply o_lss | apply o_leq | apply o_gtr | apply o_eql | apply o_neq | apply o_extract | apply o_min2 | apply o_max2); exact rfl; exact rfl; exact rfl) | ((with_reducible first | apply o_add | apply o_sub); exact rfl; exact rfl; exact rfl; (constructor <;> omega)) | ((with_reducible apply o_pick_t); exact rfl; exact tT_; exact rfl; exact rfl) | ((with_reducible first | apply o_alloc | apply o_makeMap0); exact rfl; intro _) | ((with_reducible apply gdo_store); first | refine wo_store1 (h := ?_) | refine wo_storeA (h := ?_)) | ((with_reducible apply o_idx); infer_instance; infer_instance; exact rfl; exact rfl; (first | exact rfl | omega); exact rfl; (first | assumption | omega | decide)) | ((with_reducible first | apply g_run); exact rfl; exact gG_) | ((with_reducible first | apply c_seq | apply c_block | apply c_region | apply c_nil | apply c_ret | apply c_exit | apply c_skip)) | ((with_reducible apply c_cond_f); exact rfl; exact fF_) | ((with_reducible first | apply e_then | apply e_then_ret | apply e_then_exit | apply e_in | apply e_in_ret | apply e_in_same)))
          refine l_again (i + 1) (show i + 1 ≤ (Top.itT R M).length by omega) (show (Top.itT R M).length - (i + 1) < (Top.itT R M).length - i by omega) ?_ ?_
          · (try dsimp only); rw [e1]; exact fS_
          · exact hS_
      | true =>
        rw [show Top.bothB ⟨xi, xs, true, true⟩ = true from rfl, if_pos rfl] at e1
        have e2 : ((Top.readN ((Top.itT R M).take (i + 1)) : Nat) : Int) = (Top.readN ((Top.itT R M).take i) : Int) + 1 := by omega
        as_aux_lemma =>
          repeat' (first | ((with_reducible apply c_cond_t); exact rfl; exact decide_eq_true (by omega)) | ((with_reducible apply o_ldPV (l := [.int .i64 xi, .int .i64 xs, .bool true, .bool true ])); infer_instance; infer_instance; exact rfl; (intro w' hw' j' v' hj'; exact SV.cell (hOI.sv encIt_len (by exact rL_) hw') hx hj'); exact rfl; exact rfl) | ((with_reducible first | apply o_move | apply o_assign | apply o_faddr0 | apply o_conv); exact rfl; exact rfl) | ((with_reducible apply gdo_load); first | refine wo_load (h := ?_) | refine wo_loadAll (h := ?_) | refine wo_loadC (h := ?_) | refine wo_ldV (h := ?_)) | ((with_reducible first | apply o_lss | apply o_leq | apply o_gtr | apply o_eql | apply o_neq | apply o_extract | apply o_min2 | apply o_max2); exact rfl; exact rfl; exact rfl) | ((with_reducible first | apply o_add | apply o_sub); exact rfl; exact rfl; exact rfl; (constructor <;> omega)) | ((with_reducible apply o_pick_t); exact rfl; exact tT_; exact rfl; exact rfl) | ((with_reducible first | apply o_alloc | apply o_makeMap0); exact rfl; intro _) | ((with_reducible apply gdo_store); first | refine wo_store1 (h := ?_) | refine wo_storeA (h := ?_)) | ((with_reducible apply o_idx); infer_instance; infer_instance; exact rfl; exact rfl; (first | exact rfl | omega); exact rfl; (first | assumption | omega | decide)) | ((with_reducible first | apply g_run); exact rfl; exact gG_) | ((with_reducible first | apply c_seq | apply c_block | apply c_region | apply c_nil | apply c_ret | apply c_exit | apply c_skip)) | ((with_reducible apply c_cond_t); exact rfl; exact tT_) | ((with_reducible first | apply e_then | apply e_then_ret | apply e_then_exit | apply e_in | apply e_in_ret | apply e_in_same)))
          refine l_again (i + 1) (show i + 1 ≤ (Top.itT R M).length by omega) (show (Top.itT R M).length - (i + 1) < (Top.itT R M).length - i by omega) ?_ ?_
          · (try dsimp only); rw [e2]; exact fS_
          · exact hS_
  obtain rfl : i = (Top.itT R M).length := by omega
  rw [List.take_length]
  clear hlt hi
  repeat' (first | ((with_reducible apply c_cond_f); exact rfl; exact decide_eq_false (by omega)) | ((with_reducible first | apply o_move | apply o_assign | apply o_faddr0 | apply o_conv); exact rfl; exact rfl) | ((with_reducible apply gdo_load); first | refine wo_load (h := ?_) | refine wo_loadAll (h := ?_) | refine wo_loadC (h := ?_) | refine wo_ldV (h := ?_)) | ((with_reducible first | apply o_lss | apply o_leq | apply o_gtr | apply o_eql | apply o_neq | apply o_extract | apply o_min2 | apply o_max2); exact rfl; exact rfl; exact rfl) | ((with_reducible apply o_len); infer_instance; exact rfl; exact rfl) | ((with_reducible first | apply c_seq | apply c_block | apply c_region | apply c_nil | apply c_ret | apply c_exit | apply c_skip)) | ((with_reducible first | apply e_then | apply e_then_ret | apply e_then_exit | apply e_in | apply e_in_ret | apply e_in_same)))
  have hln := hmd.lens
  obtain ⟨hln1, hln2⟩ := hln
  have hitl := Top.itT_len R M
  have hrnl := Top.readN_le (Top.itT R M)
  apply c_loop (σ := Nat) (Fs := fun i => [(274, .int .i64 i), (273, .int .i64 (Srt.orderF p 0 (Top.itT R M)).length), (272, .slice ao (Srt.orderF p 0 (Top.itT R M)).length co), (41, .int .i64 (Top.lastT p (Top.itT R M) i).1), (42, .int .i64 (Top.lastT p (Top.itT R M) i).2), (38, .int .i64 (Top.readN (Top.itT R M))), (32, ptr b32), (21, .slice ai (Top.itT R M).length ci), (11, .map (some b11))]) (Ls := fun i => ⟨b32, Ce [.slice x1 (Srt.pass1 p 0 (Top.itT R M)).stackers.length y1, .slice x2 (Srt.pass1 p 0 (Top.itT R M)).swept.length y2, .slice x3 (Srt.pass1 p 0 (Top.itT R M)).over.length y3, .slice x4 (Srt.pass1 p 0 (Top.itT R M)).rej.length y4, .slice x5 (Srt.pass1 p 0 (Top.itT R M)).evs.length y5, .slice z1 (Srt.pass2 p 0 (Top.itT R M)).stackers.length t1, .slice z2 (Srt.pass2 p 0 (Top.itT R M)).swept.length t2, .slice z3 (Srt.pass2 p 0 (Top.itT R M)).over.length t3, .slice z4 (Srt.pass2 p 0 (Top.itT R M)).rej.length t4, .slice z5 (Srt.pass2 p 0 (Top.itT R M)).evs.length t5, .slice ao (Srt.orderF p 0 (Top.itT R M)).length co] 62, true⟩ :: (NO ++ (NI ++ (⟨b11, MO (MM kI kI (Top.atL R)), true⟩ :: [])))) (I := fun i => i ≤ (Srt.orderF p 0 (Top.itT R M)).length) (μ := fun i => (Srt.orderF p 0 (Top.itT R M)).length - i) (s0 := 0)
  · exact Nat.zero_le _
  · exact fS_
  · exact hS_
  intro i hi
  have hi : i ≤ (Srt.orderF p 0 (Top.itT R M)).length := hi
  by_cases hlt : i < (Srt.orderF p 0 (Top.itT R M)).length
  · obtain ⟨id, hx⟩ : ∃ x, (Srt.orderF p 0 (Top.itT R M))[i]? = some x := ⟨_, List.getElem?_eq_getElem hlt⟩
    obtain ⟨k, ⟨xi, xs, xf, xse⟩, j, hk, rfl, hf, hse, hj, hl, hn1, hn2⟩ := hmd.step hx
    dsimp only at hf hse hj
    subst hf hse
    have hkl := (List.getElem?_eq_some_iff.1 hk).1
    obtain ⟨⟨l1, l2⟩, hl0⟩ : ∃ q, Top.lastT p (Top.itT R M) i = q := ⟨_, rfl⟩
    rw [hl0] at hn1 hn2
    dsimp only at hn1 hn2
    have hnd : ((Top.atL R).map Prod.fst).Nodup := by rw [Top.atL_keys]; exact hRnd
    have hlk := asF_at hnd (Top.atL_get hj)
    refine st_know (fun w' hw' => SV.ptr (hOI.sv encIt_len (by exact rL_) hw') hk) ?_
    rintro ⟨bi, oi, rfl⟩
    refine st_know (fun w' hw' => SV.ptr (k7.sv encI_len (by exact rL_) hw') hx) ?_
    rintro ⟨bo, oo, rfl⟩
    rw [hl0]
    dsimp only
    by_cases hjl : (j : Int) = l1
    · have hid : ¬ (k : Int) + 1 ≤ l2 := fun h => hn2 ⟨hjl, h⟩
      as_aux_lemma =>
        repeat' (first | ((with_reducible apply c_cond_t); exact rfl; exact decide_eq_true (by omega)) | ((with_reducible apply c_cond_f); exact rfl; exact decide_eq_false (by omega)) | ((with_reducible apply o_pick_t); exact rfl; exact decide_eq_true (by omega); exact rfl; exact rfl) | ((with_reducible apply o_pick_f); exact rfl; exact decide_eq_false (by omega); exact rfl; exact rfl) | ((with_reducible apply g_run); exact rfl; exact decide_eq_true (by omega)) | ((with_reducible apply g_run); exact rfl; exact decide_eq_false (by omega)) | ((with_reducible apply o_subE (v := (k : Int))); exact rfl; exact rfl; omega; (constructor <;> omega); exact rfl) | ((with_reducible apply o_ldP (v := .int .i64 ((k : Int) + 1))); infer_instance; exact rfl; (intro w' hw'; exact SV.cell1 (k7.sv encI_len (by exact rL_) hw') hx rfl); exact rfl) | ((with_reducible apply o_ldP (v := .bool true)); infer_instance; exact rfl; (intro w' hw'; exact SV.cell (hOI.sv encIt_len (by exact rL_) hw') hk (j := 2) rfl); exact rfl) | ((with_reducible apply o_ldP (v := .bool true)); infer_instance; exact rfl; (intro w' hw'; exact SV.cell (hOI.sv encIt_len (by exact rL_) hw') hk (j := 3) rfl); exact rfl) | ((with_reducible apply o_ldP (v := .int .i64 xs)); infer_instance; exact rfl; (intro w' hw'; exact SV.cell (hOI.sv encIt_len (by exact rL_) hw') hk (j := 1) rfl); exact rfl) | ((with_reducible apply o_lookM_in (κ := kI) (ν := kI) (l := Top.atL R) (k := xs) (v := (j : Int))); infer_instance; infer_instance; exact rfl; exact rfl; exact kN_; exact hnd; exact hlk; exact rfl) | ((with_reducible first | apply o_move | apply o_assign | apply o_faddr0 | apply o_conv); exact rfl; exact rfl) | ((with_reducible first | apply o_faddr); exact rfl; exact rfl) | ((with_reducible first | apply o_lss | apply o_leq | apply o_gtr | apply o_eql | apply o_neq | apply o_extract | apply o_min2 | apply o_max2); exact rfl; exact rfl; exact rfl) | ((with_reducible apply o_not); exact rfl; exact rfl) | ((with_reducible first | apply o_add | apply o_sub); exact rfl; exact rfl; exact rfl; (constructor <;> omega)) | ((with_reducible apply o_pick_f); exact rfl; exact fF_; exact rfl; exact rfl) | ((with_reducible apply o_len); infer_instance; exact rfl; exact rfl) | ((with_reducible apply o_idx); infer_instance; infer_instance; exact rfl; exact rfl; (first | exact rfl | omega); exact rfl; (first | assumption | omega | decide)) | ((with_reducible first | apply g_run); exact rfl; exact gG_) | ((with_reducible first | apply c_seq | apply c_block | apply c_region | apply c_nil | apply c_ret | apply c_exit | apply c_skip)) | ((with_reducible apply c_cond_f); exact rfl; exact fF_) | ((with_reducible first | apply e_then | apply e_then_ret | apply e_then_exit | apply e_in | apply e_in_ret | apply e_in_same)))
        refine l_again (i + 1) (show i + 1 ≤ (Srt.orderF p 0 (Top.itT R M)).length by omega) (show (Srt.orderF p 0 (Top.itT R M)).length - (i + 1) < (Srt.orderF p 0 (Top.itT R M)).length - i by omega) ?_ ?_
        · (try dsimp only); rw [hl]; exact fS_
        · exact hS_
    · as_aux_lemma =>
        repeat' (first | ((with_reducible apply c_cond_t); exact rfl; exact decide_eq_true (by omega)) | ((with_reducible apply o_pick_f); exact rfl; exact decide_eq_false (by omega); exact rfl; exact rfl) | ((with_reducible apply g_skip); exact rfl; exact decide_eq_false (by omega); exact rfl) | ((with_reducible apply g_run); exact rfl; exact decide_eq_false (by omega)) | ((with_reducible apply o_subE (v := (k : Int))); exact rfl; exact rfl; omega; (constructor <;> omega); exact rfl) | ((with_reducible apply o_ldP (v := .int .i64 ((k : Int) + 1))); infer_instance; exact rfl; (intro w' hw'; exact SV.cell1 (k7.sv encI_len (by exact rL_) hw') hx rfl); exact rfl) | ((with_reducible apply o_ldP (v := .bool true)); infer_instance; exact rfl; (intro w' hw'; exact SV.cell (hOI.sv encIt_len (by exact rL_) hw') hk (j := 2) rfl); exact rfl) | ((with_reducible apply o_ldP (v := .bool true)); infer_instance; exact rfl; (intro w' hw'; exact SV.cell (hOI.sv encIt_len (by exact rL_) hw') hk (j := 3) rfl); exact rfl) | ((with_reducible apply o_ldP (v := .int .i64 xs)); infer_instance; exact rfl; (intro w' hw'; exact SV.cell (hOI.sv encIt_len (by exact rL_) hw') hk (j := 1) rfl); exact rfl) | ((with_reducible apply o_lookM_in (κ := kI) (ν := kI) (l := Top.atL R) (k := xs) (v := (j : Int))); infer_instance; infer_instance; exact rfl; exact rfl; exact kN_; exact hnd; exact hlk; exact rfl) | ((with_reducible first | apply o_move | apply o_assign | apply o_faddr0 | apply o_conv); exact rfl; exact rfl) | ((with_reducible first | apply o_faddr); exact rfl; exact rfl) | ((with_reducible first | apply o_lss | apply o_leq | apply o_gtr | apply o_eql | apply o_neq | apply o_extract | apply o_min2 | apply o_max2); exact rfl; exact rfl; exact rfl) | ((with_reducible apply o_not); exact rfl; exact rfl) | ((with_reducible first | apply o_add | apply o_sub); exact rfl; exact rfl; exact rfl; (constructor <;> omega)) | ((with_reducible apply o_pick_f); exact rfl; exact fF_; exact rfl; exact rfl) | ((with_reducible apply o_len); infer_instance; exact rfl; exact rfl) | ((with_reducible apply o_idx); infer_instance; infer_instance; exact rfl; exact rfl; (first | exact rfl | omega); exact rfl; (first | assumption | omega | decide)) | ((with_reducible first | apply g_run); exact rfl; exact gG_) | ((with_reducible first | apply c_seq | apply c_block | apply c_region | apply c_nil | apply c_ret | apply c_exit | apply c_skip)) | ((with_reducible apply c_cond_f); exact rfl; exact fF_) | ((with_reducible first | apply e_then | apply e_then_ret | apply e_then_exit | apply e_in | apply e_in_ret | apply e_in_same)))
        refine l_again (i + 1) (show i + 1 ≤ (Srt.orderF p 0 (Top.itT R M)).length by omega) (show (Srt.orderF p 0 (Top.itT R M)).length - (i + 1) < (Srt.orderF p 0 (Top.itT R M)).length - i by omega) ?_ ?_
        · (try dsimp only); rw [hl]; exact fS_
        · exact hS_
  repeat' (first | ((with_reducible apply c_cond_f); exact rfl; exact decide_eq_false (by omega)) | ((with_reducible apply o_pick_t); exact rfl; exact decide_eq_true (by omega); exact rfl; exact rfl) | ((with_reducible apply g_run); exact rfl; exact decide_eq_true (by omega)) | ((first | ((with_reducible apply o_call_pure (f := 5)); exact rfl) | ((with_reducible apply q_call_pure (f := 5)); exact rfl; kernel_rfl; exact rfl; exact sJ_)); exact eV_; exact (fun w _ => sorting_calls w)) | ((with_reducible first | apply o_move | apply o_assign | apply o_faddr0 | apply o_conv); exact rfl; exact rfl) | ((with_reducible first | apply o_faddr); exact rfl; exact rfl) | ((with_reducible apply gdo_load); first | refine wo_load (h := ?_) | refine wo_loadAll (h := ?_) | refine wo_loadC (h := ?_) | refine wo_ldV (h := ?_)) | ((with_reducible first | apply o_lss | apply o_leq | apply o_gtr | apply o_eql | apply o_neq | apply o_extract | apply o_min2 | apply o_max2); exact rfl; exact rfl; exact rfl) | ((with_reducible first | apply o_add | apply o_sub); exact rfl; exact rfl; exact rfl; (constructor <;> omega)) | ((with_reducible apply o_len); infer_instance; exact rfl; exact rfl) | ((with_reducible first | apply c_seq | apply c_block | apply c_region | apply c_nil | apply c_ret | apply c_exit | apply c_skip)) | ((with_reducible first | apply e_then | apply e_then_ret | apply e_then_exit | apply e_in | apply e_in_ret | apply e_in_same)))
  apply r_body; apply res1 Try.results3; exact rV_; intro w' hw
  exact ⟨rfl, hw.below (show AO _ from by exact aO_)⟩
end Go.Proofs.Ythcoaljmgkhglaa
namespace Go.Proofs.Ythcoaljmgkhglaa
open Go Go.ChangeShapes Go.WideShapes Go.ChangeAt Go.RowKit Go.Sx
theorem own : ownKnob Try.prog.godebug = none := by kernel_rfl
theorem laidOut : laidOutB Try.prog = true := by kernel_rfl
theorem cellsB : Try.prog.cellsOf 5 = 1 := by kernel_rfl
section
variable {H : Type} {enc : TypeId × Value → H} {w : World}
set_option maxRecDepth 100000 in
theorem arg_u8 {r : Reach} {b0 : Nat} {v : Value} {d : DataW H} {ps : List MemPlace} (hv : Value.okWide Try.prog w r b0 5 v) (h : DataW.Trod enc Try.prog w 0 (fun _ => true) true 5 v d ps) : ∃ n, v = .int .u8 n ∧ (0 ≤ n ∧ n ≤ 255) := by
  obtain ⟨n, rfl, _, _, hw⟩ := open_int Try.underlying5 hv h
  refine ⟨n, rfl, ?_⟩
  simp only [Lit.wf, Bool.and_eq_true, decide_eq_true_eq] at hw
  exact hw
set_option maxRecDepth 100000 in
theorem rd_byte {cs : List Value} (h : Rd enc Try.prog w 5 cs) : ∃ x : UInt8, cs = encB x ∧ True := by
  obtain ⟨n, rfl, hw⟩ := Rd.int Try.underlying5 h
  simp only [Lit.wf, Bool.and_eq_true, decide_eq_true_eq] at hw
  have h0 : 0 ≤ n := hw.1
  have h1 : n ≤ 255 := hw.2
  refine ⟨UInt8.ofNat n.toNat, ?_, trivial⟩
  unfold encB
  have : (UInt8.ofNat n.toNat).toNat = n.toNat := by
    rw [UInt8.toNat_ofNat']
    omega
  rw [this]
  congr 2
  omega
set_option maxRecDepth 100000 in
theorem arg_bytes {r : Reach} {b0 : Nat} {v : Value} {d : DataW H} {ps : List MemPlace} (hv : Value.okWide Try.prog w r b0 22 v) (h : DataW.Trod enc Try.prog w 0 (fun _ => true) true 22 v d ps) : ∃ l : List UInt8, SV w 1 encB v l := by
  obtain ⟨a, len, cap, rfl⟩ := okWide_slice Try.underlying22 hv
  obtain ⟨v', xs, h1, h2, _⟩ := rd_slice (good := fun _ => True) Try.underlying22 cellsB (by decide) encB_len (fun cs h => rd_byte h) (Rd.of h)
  simp only [Value.cells] at h1
  obtain rfl : Value.slice a len cap = v' := by simpa using h1
  exact ⟨xs, h2⟩
theorem cellsTSK : Try.prog.cellsOf 25 = 4 := by kernel_rfl
theorem cellsTBYTES : Try.prog.cellsOf 22 = 1 := by kernel_rfl
theorem cellsTWIDE : Try.prog.cellsOf 23 = 1 := by kernel_rfl
theorem cellsH : Try.prog.cellsOf 74 = 1 := by kernel_rfl
theorem list4 {α : Type} {l : List α} (h : l.length = 4) : ∃ a b c d, l = [a, b, c, d] := by
  match l, h with
  | [a, b, c, d], _ => exact ⟨a, b, c, d, rfl⟩
set_option maxRecDepth 100000 in
theorem rd_half {cs : List Value} (h : Rd enc Try.prog w 74 cs) : ∃ x : UInt16, cs = encH x ∧ True := by
  obtain ⟨n, rfl, hw⟩ := Rd.int Try.underlying74 h
  simp only [Lit.wf, Bool.and_eq_true, decide_eq_true_eq] at hw
  have h0 : 0 ≤ n := hw.1
  have h1 : n ≤ 65535 := hw.2
  refine ⟨UInt16.ofNat n.toNat, ?_, trivial⟩
  unfold encH
  have : (UInt16.ofNat n.toNat).toNat = n.toNat := by
    rw [UInt16.toNat_ofNat']
    omega
  rw [this]
  congr 2
  omega
set_option maxRecDepth 100000 in
theorem rd_num {c : Value} (h : Rd enc Try.prog w 5 [c]) : ∃ n : Int, c = .int .u8 n ∧ 0 ≤ n ∧ n ≤ 255 := by
  obtain ⟨n, e, hw⟩ := Rd.int Try.underlying5 h
  simp only [Lit.wf, Bool.and_eq_true, decide_eq_true_eq] at hw
  exact ⟨n, by simpa using e, hw.1, hw.2⟩
set_option maxRecDepth 100000 in
theorem arg_sk12 {r : Reach} {b0 : Nat} {v : Value} {d : DataW H} {ps : List MemPlace} (hv : Value.okWide Try.prog w r b0 25 v) (h : DataW.Trod enc Try.prog w 0 (fun _ => true) true 25 v d ps) :
    ∃ t s v2 v3, ∃ (cuts : List UInt8) (pts : List UInt16), v = .agg #[.int .u8 t, .int .u8 s, v2, v3] ∧ (0 ≤ t ∧ t ≤ 255) ∧ (0 ≤ s ∧ s ≤ 255) ∧ SV w 1 encB v2 cuts ∧ SV w 1 encH v3 pts := by
  obtain ⟨cs, rfl, _⟩ := okWide_struct Try.underlying25 hv
  obtain ⟨hl, hf⟩ := (Rd.of h).struct Try.underlying25
  rw [cellsTSK] at hl
  simp only [Value.cells] at hl hf
  obtain ⟨a, b, c, e, hab⟩ := list4 hl
  rw [hab] at hf
  have f0 : Rd enc Try.prog w 5 [a] := by have := hf 0 _ rfl; simpa [cellsB] using this
  have f1 : Rd enc Try.prog w 5 [b] := by have := hf 1 _ rfl; simpa [cellsB] using this
  obtain ⟨t, rfl, ht⟩ := rd_num f0
  obtain ⟨s, rfl, hs⟩ := rd_num f1
  obtain ⟨c', xc, hc, wc, _⟩ := rd_slice (good := fun _ => True) Try.underlying22 cellsB (by decide) encB_len (fun cs h => rd_byte h) (hf 2 _ rfl)
  obtain ⟨e', xe, he, we, _⟩ := rd_slice (good := fun _ => True) Try.underlying23 cellsH (by decide) encH_len (fun cs h => rd_half h) (hf 3 _ rfl)
  obtain rfl : c = c' := by simpa [cellsTBYTES] using hc
  obtain rfl : e = e' := by simpa [cellsTWIDE] using he
  refine ⟨t, s, c, e, xc, xe, ?_, ht, hs, wc, we⟩
  rw [show cs = #[.int .u8 t, .int .u8 s, c, e] from by rw [← Array.toArray_toList (xs := cs), hab]]
end
end Go.Proofs.Ythcoaljmgkhglaa
namespace Go.Proofs.Ythcoaljmgkhglaa
open Go Go.ChangeShapes Go.WideShapes Go.ChangeAt Go.RowKit Go.Sx
set_option maxRecDepth 100000 in
theorem topOrdered_lifted (os : Os) (started : os.Started) (H : Type) (enc : TypeId × Value → H) :
    ReturnsInHanded {} Try.checked os 3 .any (Rows.topOrderedSpec.pre6 enc Try.prog Try.f3 Rows.topOrderedRow.domain false) (Rows.topOrderedSpec.post enc Try.prog Try.f3 false true false false) := by
  refine returnsInHanded_of_change (C := Try.checked) own started (by kernel_rfl) Try.func3
    (ChangeSpec.witness6 (enc := enc) (C := Try.checked) false ⟨#[], #[.agg #[.int .u8 0, .int .u8 0, .slice none 0 0, .slice none 0 0], .int .u8 0, .slice none 0 0, .slice none 0 0], []⟩ 8 (by kernel_rfl) (by kernel_rfl) (by kernel_rfl) (by kernel_rfl)) ?_
  intro W base args ds gs before hval0 hW hcnd _
  have hval : ∀ (j : Nat) t v, Try.f3.params[j]? = some t → args[j]? = some v → Value.okWide Try.prog W .any base t v := hval0
  have hW' := hW
  obtain ⟨p, q, hA0, hV, rfl, hfz, hnd⟩ := hW
  have hA : DataW.TrodAll enc Try.prog W 0 (fun _ => true) true Try.f3.params.toList args.toList ds p := hA0
  rw [Try.params3] at hA hval
  obtain ⟨v0, vs0, d0, ds0, p0, q0, hargs, rfl, rfl, h0, r0⟩ := trodAll_cons hA
  obtain ⟨v1, vs1, d1, ds1, p1, q1, rfl, rfl, rfl, h1, r1⟩ := trodAll_cons r0
  obtain ⟨v2, vs2, d2, ds2, p2, q2, rfl, rfl, rfl, h2, r2⟩ := trodAll_cons r1
  obtain ⟨v3, vs3, d3, ds3, p3, q3, rfl, rfl, rfl, h3, r3⟩ := trodAll_cons r2
  obtain ⟨rfl, rfl, rfl⟩ := trodAll_nil r3
  obtain rfl : args = #[v0, v1, v2, v3] := by cases args; simp_all
  obtain ⟨rfl, rfl⟩ := trodVars_none hV
  have lt0 := Rd.lt h0
  have hv0 := hval 0 25 v0 rfl rfl
  have lt1 := Rd.lt h1
  have hv1 := hval 1 5 v1 rfl rfl
  have lt2 := Rd.lt h2
  have hv2 := hval 2 22 v2 rfl rfl
  have lt3 := Rd.lt h3
  have hv3 := hval 3 22 v3 rfl rfl
  clear hA0 hval0
  obtain ⟨t, s, c2, c3, cuts, pts, rfl, htw, hst, s2, s3⟩ := arg_sk12 hv0 h0
  obtain ⟨wh, rfl, hwh⟩ := arg_u8 hv1 h1
  obtain ⟨cs, s4⟩ := arg_bytes hv2 h2
  obtain ⟨ml, s5⟩ := arg_bytes hv3 h3
  refine (top_calls W htw hst hwh s2 s3 s4 s5).mono fun e W' ⟨he, bel⟩ => ?_
  subst he
  exact ⟨_, rfl, _, _, _, [], _, [], hW', trodAll_mk1 (shut_bool Try.underlying4 _), (trodAll_cons_mk (Below.trod laidOut (by kernel_rfl) (of_decide_eq_true (by kernel_rfl)) h0 bel lt0) (trodAll_cons_mk (Below.trod laidOut (by kernel_rfl) (of_decide_eq_true (by kernel_rfl)) h1 bel lt1) (trodAll_cons_mk (Below.trod laidOut (by kernel_rfl) (of_decide_eq_true (by kernel_rfl)) h2 bel lt2) (trodAll_cons_mk (Below.trod laidOut (by kernel_rfl) (of_decide_eq_true (by kernel_rfl)) h3 bel lt3) trodAll_mk0)))), rfl, bel.frame _, fun h => by cases h⟩
theorem topOrdered_proved : Rows.TopOrderedSaid :=
  OpenClaim.holds_of_wide 3 Try.f3 rfl rfl rfl rfl rfl rfl rfl ⟨rfl, rfl, rfl, rfl, rfl⟩ rfl rfl rfl rfl rfl (by kernel_rfl) Try.func3 (by kernel_rfl)
    (of_decide_eq_true (by kernel_rfl)) (by unfold Func.isWrapper; first | (rw [if_pos (by decide +kernel)]; kernel_rfl) | (rw [if_neg (by decide +kernel)]; exact ⟨rfl, rfl⟩))
    (fun os started H enc _ => topOrdered_lifted os started H enc)
end Go.Proofs.Ythcoaljmgkhglaa
