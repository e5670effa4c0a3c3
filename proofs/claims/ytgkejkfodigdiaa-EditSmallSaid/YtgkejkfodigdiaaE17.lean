/-
  A part of the proofs of this seat: what some of the program's functions compute, shown by walks through their code. Conditions: the hypotheses that each theorem names. (Its blocks of tactics were laid by a small program.)
-/
import Derived.Test.YtgkejkfodigdiaaE15
set_option linter.unusedSimpArgs false
set_option linter.unusedVariables false
namespace Go.Proofs.Ytgkejkfodigdiaa
open Go Go.Sx Go.RowKit
attribute [local irreducible] WL WC WQ WR St Exit.then Exit.inBlock Exit.noGoto bodyPost roundPost beginK YR RG BM Calls B
/-! ## texts exchanged, backwards -/
theorem back_calls {s : Edit.T} (hs : s.length ≤ 1000) (w : World) : Calls Try.prog 15 #[str s] w fun e w' => e = .returned (str s.reverse) ∧ Below w.heap.size w w' := by
  refine f_enter1 Try.func15 rfl Try.ntmps15 rfl (Rep.start w) ?_
  repeat' (first | ((with_reducible first | apply o_move | apply o_assign | apply o_conv); exact rfl; exact rfl) | ((with_reducible apply o_sub); exact rfl; exact rfl; exact rfl; (constructor <;> omega)) | ((with_reducible apply o_len_t); infer_instance; exact rfl; exact rfl) | ((with_reducible first | apply c_seq | apply c_block | apply c_region | apply c_nil | apply c_ret | apply c_exit | apply c_unroll | apply c_skip)) | ((with_reducible first | apply e_then | apply e_then_ret | apply e_then_exit | apply e_in | apply e_in_ret | apply e_in_same)))
  apply c_loop (σ := Int × Edit.T × (Option Addr × Nat) × List Ent) (Fs := fun t => [(4, .int .i64 t.1), (3, .slice t.2.2.1.1 t.2.1.length t.2.2.1.2), (0, str s)]) (Ls := fun t => t.2.2.2 ++ [])
    (I := fun t => (-1 ≤ t.1 ∧ t.1 ≤ s.length - 1) ∧ OW 5 1 encB (.slice t.2.2.1.1 t.2.1.length t.2.2.1.2) t.2.1 t.2.2.2 ∧ ∀ i : Nat, (i : Int) = t.1 + 1 → t.2.1 = (s.drop i).reverse) (μ := fun t => (t.1 + 1).toNat) (s0 := ((s.length : Int) - 1, [], (none, 0), []))
  · refine ⟨by simp only []; omega, OW.nil, fun i hi => ?_⟩
    obtain rfl : i = s.length := by simp only [] at hi; omega
    simp
  · (repeat (first | exact FSub.nil | refine FSub.cons rfl ?_))
  · ((try dsimp only); repeat (first | exact HSub.nil rfl | (apply HSub.take; (repeat (first | exact Rem.hd | apply Rem.tl | apply Rem.right))) | exact HSub.same | apply HSub.drop | (apply HSub.takeL; (focus ((repeat (first | exact RemL.hd | exact RemL.all | exact RemL.nil | apply RemL.tl | apply RemL.right))))) | (apply HSub.takeA; (first | exact RemL.hd | exact RemL.all); ((focus (repeat (first | exact AO.nil | apply AO.cons | (apply AO.app; assumption)))) <;> done)) | (apply HSub.dropL; assumption) | (apply HSub.takeA; (focus ((repeat (first | exact RemL.hd | exact RemL.all | exact RemL.nil | apply RemL.tl | apply RemL.right)))); ((focus (repeat (first | exact AO.nil | apply AO.cons | (apply AO.app; assumption)))) <;> done)) | (apply HSub.nilA; ((focus (repeat (first | exact AO.nil | apply AO.cons | (apply AO.app; assumption)))) <;> done))))
  rintro ⟨jj, out, ⟨ad, capd⟩, N⟩ ⟨hj, hO, hout⟩
  simp only [] at hj hO hout ⊢
  have hN := hO.own
  by_cases hlt : 0 ≤ jj
  · obtain ⟨j, rfl⟩ := Int.eq_ofNat_of_zero_le hlt
    have hjs : j < s.length := by omega
    obtain ⟨y, hy⟩ : ∃ y, s[j]? = some y := ⟨_, List.getElem?_eq_getElem hjs⟩
    have ho := hout (j + 1) (by omega)
    have hol : out.length ≤ 1000 := by rw [ho]; simp; omega
    repeat' (first | (apply o_appH (enc := encB) (ys := [y]); infer_instance; infer_instance; infer_instance; exact rfl; exact encB_len; exact encB_one; exact rfl; exact rfl; exact rfl; assumption; (repeat (first | exact RemL.hd | exact RemL.all | exact RemL.nil | apply RemL.tl | apply RemL.right)); (exact fun w hw => SV.lit [y] encB_len hw (by ((focus (repeat (first | assumption | exact At.hd | refine At.tl ?_ | (refine At.left ?_; assumption) | refine At.right ?_))) <;> done)) rfl rfl (by decide)); (first | decide | (constructor <;> (try simp only [List.length_cons, List.length_nil]) <;> omega) | (constructor <;> simp <;> omega)); intro _ _ _ _) | ((with_reducible first | apply o_move | apply o_assign | apply o_conv); exact rfl; exact rfl) | ((with_reducible apply o_geq); exact rfl; exact rfl; exact rfl) | ((with_reducible apply o_sub); exact rfl; exact rfl; exact rfl; (constructor <;> omega)) | ((with_reducible apply o_index_t); infer_instance; exact rfl; exact rfl; (first | exact Int.cast_ofNat_Int.symm | exact rfl | omega); (first | exact rfl | assumption); exact rfl) | ((with_reducible apply gdo_buildSlice); refine wo_buildSlice (h := fun _ => ?_)) | ((with_reducible first | apply c_seq | apply c_block | apply c_region | apply c_nil | apply c_ret | apply c_exit | apply c_unroll | apply c_skip)) | ((with_reducible apply c_cond_t); exact rfl; exact tT_) | ((with_reducible first | apply e_then | apply e_then_ret | apply e_then_exit | apply e_in | apply e_in_ret | apply e_in_same)))
    rename_i a' cap' N' hO'
    refine l_again ((j : Int) - 1, out ++ [y], (a', cap'), N') ⟨by simp only []; omega, hO', fun i hi => ?_⟩ (by simp only []; omega) ?_ ?_
    · obtain rfl : i = j := by simp only [] at hi; omega
      simp only []
      have hd : s.drop i = y :: s.drop (i + 1) := by
        rw [← List.getElem_cons_drop (h := hjs), (List.getElem?_eq_some_iff.1 hy).2]
      rw [hd, ho, List.reverse_cons]
    · (repeat (first | exact FSub.nil | refine FSub.cons rfl ?_))
    · ((try dsimp only); repeat (first | exact HSub.nil rfl | (apply HSub.take; (repeat (first | exact Rem.hd | apply Rem.tl | apply Rem.right))) | exact HSub.same | apply HSub.drop | (apply HSub.takeL; (focus ((repeat (first | exact RemL.hd | exact RemL.all | exact RemL.nil | apply RemL.tl | apply RemL.right))))) | (apply HSub.takeA; (first | exact RemL.hd | exact RemL.all); ((focus (repeat (first | exact AO.nil | apply AO.cons | (apply AO.app; assumption)))) <;> done)) | (apply HSub.dropL; assumption) | (apply HSub.takeA; (focus ((repeat (first | exact RemL.hd | exact RemL.all | exact RemL.nil | apply RemL.tl | apply RemL.right)))); ((focus (repeat (first | exact AO.nil | apply AO.cons | (apply AO.app; assumption)))) <;> done)) | (apply HSub.nilA; ((focus (repeat (first | exact AO.nil | apply AO.cons | (apply AO.app; assumption)))) <;> done))))
  · have ho := hout 0 (by omega)
    rw [List.drop_zero] at ho
    repeat' (first | (apply o_str_b (l := out); infer_instance; infer_instance; infer_instance; exact rfl; (exact fun w hw => hO.sv encB_len (by (repeat (first | exact RemL.hd | exact RemL.all | exact RemL.nil | apply RemL.tl | apply RemL.right))) hw); exact rfl) | ((with_reducible first | apply o_move | apply o_assign | apply o_conv); exact rfl; exact rfl) | ((with_reducible apply o_geq); exact rfl; exact rfl; exact rfl) | ((with_reducible first | apply c_seq | apply c_block | apply c_region | apply c_nil | apply c_ret | apply c_exit | apply c_unroll | apply c_skip)) | ((with_reducible apply c_cond_f); exact rfl; exact fF_) | ((with_reducible first | apply e_then | apply e_then_ret | apply e_then_exit | apply e_in | apply e_in_ret | apply e_in_same)))
    apply r_body; apply res1 Try.results15; exact rV_; intro w' hw
    exact ⟨by rw [ho], hw.below (show AO _ from by ((focus (repeat (first | exact AO.nil | apply AO.cons | (apply AO.app; assumption)))) <;> done))⟩
theorem flip_ok {c : Edit.Cs} (h : c.ok) : c.flip.ok := by
  unfold Edit.Cs.ok Edit.Cs.flip at *
  simp only []
  omega
theorem dist_at {c : Edit.Cs} (hc : c.ok) {a b : Edit.T} {n : Int} (ha : a.length ≤ 60) (hb : b.length ≤ 60) (h : Edit.D c a b = n) (w : World) : Calls Try.prog 14 #[str a, str b, costV c] w fun e w' => e = .returned (.tuple #[.int .i64 n, .int .i64 0]) ∧ Below w.heap.size w w' := by
  rw [← h]; exact distance_ok hc ha hb w
set_option maxHeartbeats 4000000 in
theorem law4_calls {c : Edit.Cs} {a b : Edit.T} (w : World) (ha : a.length ≤ 9223372036854775807) (hb : b.length ≤ 9223372036854775807) : Calls Try.prog 4 #[str a, str b, costV c] w fun e w' => e = .returned (.bool true) ∧ Below w.heap.size w w' := by
  by_cases h : c.ok ∧ a.length ≤ 60 ∧ b.length ≤ 60
  · obtain ⟨hc, h1, h2⟩ := h
    have hr : ∀ w, Calls Try.prog 13 #[costV c] w fun e w' => e = .returned (.bool true) ∧ Below w.heap.size w w' := fun w => by
      have := right_calls c w; rwa [B_true hc] at this
    have he : decide (Edit.D c a b = 0) = decide (a = b) := decide_eq_decide.2 ⟨Edit.D_zero hc, fun h => by subst h; exact Edit.D_self hc a⟩
    generalize hn : Edit.D c a b = n at he
    have d1 := fun w => dist_at hc h1 h2 hn w
    have d2 := fun w => dist_at (flip_ok hc) h2 h1 ((Edit.D_flip c a b).trans hn) w
    have d3 := fun w => dist_at hc (a := a.reverse) (b := b.reverse) (by simpa using h1) (by simpa using h2) ((Edit.D_rev c a b).trans hn) w
    have d4 := fun w => dist_at hc h1 h1 (Edit.D_self hc a) w
    refine f_enter3 Try.func4 rfl Try.ntmps4 rfl (Rep.start w) ?_
    repeat' (first | ((first | ((with_reducible apply o_call_pure (f := 11)); exact rfl) | ((with_reducible apply q_call_pure (f := 11)); exact rfl; kernel_rfl; exact rfl; (focus (repeat (first | (apply SubJ.keep; (decide +kernel)) | apply SubJ.drop | exact SubJ.nil))))); (repeat (first | exact Evs.nil | apply Evs.cons rfl)); exact (fun w _ => awake_calls w)) | ((first | ((with_reducible apply o_call_pure (f := 13)); exact rfl) | ((with_reducible apply q_call_pure (f := 13)); exact rfl; kernel_rfl; exact rfl; (focus (repeat (first | (apply SubJ.keep; (decide +kernel)) | apply SubJ.drop | exact SubJ.nil))))); (repeat (first | exact Evs.nil | apply Evs.cons rfl)); exact (fun w _ => hr w)) | ((first | ((with_reducible apply o_call_pure (f := 14)); exact rfl) | ((with_reducible apply q_call_pure (f := 14)); exact rfl; kernel_rfl; exact rfl; (focus (repeat (first | (apply SubJ.keep; (decide +kernel)) | apply SubJ.drop | exact SubJ.nil))))); (repeat (first | exact Evs.nil | apply Evs.cons rfl)); exact (fun w _ => d1 w)) | ((first | ((with_reducible apply o_call_pure (f := 14)); exact rfl) | ((with_reducible apply q_call_pure (f := 14)); exact rfl; kernel_rfl; exact rfl; (focus (repeat (first | (apply SubJ.keep; (decide +kernel)) | apply SubJ.drop | exact SubJ.nil))))); (repeat (first | exact Evs.nil | apply Evs.cons rfl)); exact (fun w _ => d2 w)) | ((first | ((with_reducible apply o_call_pure (f := 14)); exact rfl) | ((with_reducible apply q_call_pure (f := 14)); exact rfl; kernel_rfl; exact rfl; (focus (repeat (first | (apply SubJ.keep; (decide +kernel)) | apply SubJ.drop | exact SubJ.nil))))); (repeat (first | exact Evs.nil | apply Evs.cons rfl)); exact (fun w _ => d3 w)) | ((first | ((with_reducible apply o_call_pure (f := 14)); exact rfl) | ((with_reducible apply q_call_pure (f := 14)); exact rfl; kernel_rfl; exact rfl; (focus (repeat (first | (apply SubJ.keep; (decide +kernel)) | apply SubJ.drop | exact SubJ.nil))))); (repeat (first | exact Evs.nil | apply Evs.cons rfl)); exact (fun w _ => d4 w)) | ((first | ((with_reducible apply o_call_pure (f := 15)); exact rfl) | ((with_reducible apply q_call_pure (f := 15)); exact rfl; kernel_rfl; exact rfl; (focus (repeat (first | (apply SubJ.keep; (decide +kernel)) | apply SubJ.drop | exact SubJ.nil))))); (repeat (first | exact Evs.nil | apply Evs.cons rfl)); exact (fun w _ => back_calls (s := a) (by omega) w)) | ((first | ((with_reducible apply o_call_pure (f := 15)); exact rfl) | ((with_reducible apply q_call_pure (f := 15)); exact rfl; kernel_rfl; exact rfl; (focus (repeat (first | (apply SubJ.keep; (decide +kernel)) | apply SubJ.drop | exact SubJ.nil))))); (repeat (first | exact Evs.nil | apply Evs.cons rfl)); exact (fun w _ => back_calls (s := b) (by omega) w)) | ((with_reducible first | apply o_move | apply o_assign | apply o_faddr0 | apply o_not_d); exact rfl; exact rfl) | ((with_reducible apply gdo_load); first | refine wo_load (h := ?_) | refine wo_loadAll (h := ?_) | refine wo_loadC (h := ?_) | refine wo_ldV (h := ?_) | refine wo_ldF (h := ?_)) | ((with_reducible first | apply o_gtr | apply o_eql | apply o_extract); exact rfl; exact rfl; exact rfl) | ((with_reducible apply o_not); exact rfl; exact rfl) | ((with_reducible apply o_eql_b); exact rfl; exact rfl; exact rfl) | ((with_reducible apply o_pick_t); exact rfl; exact tT_; exact rfl; exact rfl) | ((with_reducible apply o_pick_f); exact rfl; exact fF_; exact rfl; exact rfl) | ((with_reducible apply o_alloc); exact rfl; intro _) | ((with_reducible apply o_box); exact rfl; exact rfl; exact rfl; intro _) | ((with_reducible apply gdo_store); first | refine wo_store1 (h := ?_) | refine wo_storeA (h := ?_)) | ((with_reducible apply o_len_t); infer_instance; exact rfl; exact rfl) | ((with_reducible apply o_eql_t); infer_instance; exact rfl; exact rfl; exact rfl) | ((with_reducible first | apply g_run | apply g_skip_none); exact rfl; exact gG_) | ((with_reducible first | apply c_seq | apply c_block | apply c_region | apply c_nil | apply c_ret | apply c_exit | apply c_unroll | apply c_skip)) | ((with_reducible apply c_cond_f); exact rfl; exact fF_) | ((with_reducible first | apply e_then | apply e_then_ret | apply e_then_exit | apply e_in | apply e_in_ret | apply e_in_same)) | ((with_reducible apply c_regionD0 (id := 10) []); kernel_rfl; kernel_rfl) | ((with_reducible apply q_nil); try simp only [ents, List.cons_append, List.nil_append]) | ((with_reducible first | apply q_move | apply q_assign | apply q_faddr0 | apply q_not_d); exact rfl; exact rfl) | ((with_reducible apply gdq_load); first | refine wq_load (h := ?_) | refine wq_loadAll (h := ?_) | refine wq_loadC (h := ?_) | refine wq_ldV (h := ?_) | refine wq_ldF (h := ?_)) | ((with_reducible first | apply q_gtr | apply q_eql | apply q_extract); exact rfl; exact rfl; exact rfl))
    apply r_body; apply res1 Try.results4; exact rV_; intro w' hw
    exact ⟨by rw [he]; simp, hw.below (by simp)⟩
  · obtain ⟨bc, hbc⟩ : ∃ b : Bool, B c.ok = b := ⟨_, rfl⟩
    have hr : ∀ w, Calls Try.prog 13 #[costV c] w fun e w' => e = .returned (.bool bc) ∧ Below w.heap.size w w' := fun w => by
      rw [← hbc]; exact right_calls c w
    have hcases : 60 < a.length ∨ 60 < b.length ∨ bc = false := by
      by_cases hc : c.ok
      · have : ¬ (a.length ≤ 60 ∧ b.length ≤ 60) := fun g => h ⟨hc, g⟩
        omega
      · rw [B_false hc] at hbc
        exact .inr (.inr hbc.symm)
    rcases hcases with h1 | h1 | rfl
    all_goals
      refine f_enter3 Try.func4 rfl Try.ntmps4 rfl (Rep.start w) ?_
      repeat' (first | ((first | ((with_reducible apply o_call_pure (f := 11)); exact rfl) | ((with_reducible apply q_call_pure (f := 11)); exact rfl; kernel_rfl; exact rfl; (focus (repeat (first | (apply SubJ.keep; (decide +kernel)) | apply SubJ.drop | exact SubJ.nil))))); (repeat (first | exact Evs.nil | apply Evs.cons rfl)); exact (fun w _ => awake_calls w)) | ((first | ((with_reducible apply o_call_pure (f := 13)); exact rfl) | ((with_reducible apply q_call_pure (f := 13)); exact rfl; kernel_rfl; exact rfl; (focus (repeat (first | (apply SubJ.keep; (decide +kernel)) | apply SubJ.drop | exact SubJ.nil))))); (repeat (first | exact Evs.nil | apply Evs.cons rfl)); exact (fun w _ => hr w)) | ((with_reducible first | apply o_move | apply o_assign | apply o_faddr0 | apply o_not_d); exact rfl; exact rfl) | ((with_reducible apply gdo_load); first | refine wo_load (h := ?_) | refine wo_loadAll (h := ?_) | refine wo_loadC (h := ?_) | refine wo_ldV (h := ?_) | refine wo_ldF (h := ?_)) | ((with_reducible first | apply o_gtr | apply o_eql | apply o_extract); exact rfl; exact rfl; exact rfl) | ((with_reducible apply o_not); exact rfl; exact rfl) | ((with_reducible apply o_pick_t); exact rfl; exact tT_; exact rfl; exact rfl) | ((with_reducible apply o_pick_f); exact rfl; exact fF_; exact rfl; exact rfl) | ((with_reducible apply o_box); exact rfl; exact rfl; exact rfl; intro _) | ((with_reducible apply o_len_t); infer_instance; exact rfl; exact rfl) | ((with_reducible first | apply g_run | apply g_skip_none); exact rfl; exact gG_) | ((with_reducible apply g_skip); exact rfl; exact gG_; exact rfl) | ((with_reducible first | apply c_seq | apply c_block | apply c_region | apply c_nil | apply c_ret | apply c_exit | apply c_unroll | apply c_skip)) | ((with_reducible apply c_cond_t); exact rfl; exact tT_) | ((with_reducible apply c_cond_f); exact rfl; exact fF_) | ((with_reducible first | apply e_then | apply e_then_ret | apply e_then_exit | apply e_in | apply e_in_ret | apply e_in_same)) | ((with_reducible apply g_split_d); exact rfl; intro hcond; rotate_left; intro hcond; rotate_left))
      all_goals first
        | (exfalso; omega)
        | (apply r_body; apply res1 Try.results4; exact rV_; intro w' hw; exact ⟨rfl, hw.below (by simp)⟩)
end Go.Proofs.Ytgkejkfodigdiaa
