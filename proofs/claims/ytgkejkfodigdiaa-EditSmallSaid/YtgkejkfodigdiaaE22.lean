/-
  A part of the proofs of this seat: what some of the program's functions compute, shown by walks through their code. Conditions: the hypotheses that each theorem names. (Its blocks of tactics were laid by a small program.)
-/
import Derived.Test.YtgkejkfodigdiaaE14
import Derived.Test.YtgkejkfodigdiaaE8
set_option linter.unusedSimpArgs false
set_option linter.unusedVariables false
namespace Go.Proofs.Ytgkejkfodigdiaa
open Go Go.Sx Go.RowKit
attribute [local irreducible] WL WC WQ WR St Exit.then Exit.inBlock Exit.noGoto bodyPost roundPost beginK YR RG BM Calls B
/-! ## the reference's Apply and Cost -/
set_option maxHeartbeats 1000000 in
theorem rops_calls {lv : Value} {l : List Edit.Op} (w : World) (hl : SV w 2 opC lv l) (hn : l.length ≤ 1000) : Calls Try.prog 40 #[lv] w fun e w' => ∃ v N, e = .returned v ∧
    (∃ a cap, v = .slice a l.length cap ∧ OW 66 2 opC (.slice a l.length cap) l N ∧ ∀ x ∈ N, x.own = true) ∧ Rep w w' N ∧ ∀ x ∈ N, x.own = true := by
  obtain ⟨a0, ca, rfl, hca, hop⟩ := hl.open
  refine f_enter1 Try.func40 rfl Try.ntmps40 rfl (Rep.start w) ?_
  repeat' (first | ((with_reducible first | apply o_move | apply o_assign | apply o_faddr0); exact rfl; exact rfl) | ((with_reducible first | apply c_seq | apply c_block | apply c_region | apply c_nil | apply c_ret | apply c_exit | apply c_unroll | apply c_skip)) | ((with_reducible first | apply e_then | apply e_then_ret | apply e_then_exit | apply e_in | apply e_in_ret | apply e_in_same)))
  apply c_loop (σ := Nat × List Edit.Op × (Option Addr × Nat) × List Ent)
    (Fs := fun t => [(4, .int .i64 t.1), (3, .slice t.2.2.1.1 t.2.1.length t.2.2.1.2), (0, .slice a0 l.length ca)])
    (Ls := fun t => t.2.2.2 ++ [])
    (I := fun t => t.1 ≤ l.length ∧ OW 66 2 opC (.slice t.2.2.1.1 t.2.1.length t.2.2.1.2) t.2.1 t.2.2.2 ∧ t.2.1.length = t.1 ∧ t.2.1 ++ l.drop t.1 = l)
    (μ := fun t => l.length - t.1) (s0 := (0, [], (none, 0), []))
  · exact ⟨Nat.zero_le _, OW.nil, rfl, rfl⟩
  · (repeat (first | exact FSub.nil | refine FSub.cons rfl ?_))
  · ((try dsimp only); repeat (first | exact HSub.nil rfl | (apply HSub.take; (repeat (first | exact Rem.hd | apply Rem.tl | apply Rem.right))) | exact HSub.same | apply HSub.drop | (apply HSub.takeL; (focus ((repeat (first | exact RemL.hd | exact RemL.all | exact RemL.nil | apply RemL.tl | apply RemL.right))))) | (apply HSub.takeA; (first | exact RemL.hd | exact RemL.all); ((focus (repeat (first | exact AO.nil | apply AO.cons | (apply AO.app; assumption)))) <;> done)) | (apply HSub.dropL; assumption) | (apply HSub.takeA; (focus ((repeat (first | exact RemL.hd | exact RemL.all | exact RemL.nil | apply RemL.tl | apply RemL.right)))); ((focus (repeat (first | exact AO.nil | apply AO.cons | (apply AO.app; assumption)))) <;> done)) | (apply HSub.nilA; ((focus (repeat (first | exact AO.nil | apply AO.cons | (apply AO.app; assumption)))) <;> done))))
  rintro ⟨i, done, ⟨ad, capd⟩, N⟩ ⟨hi, hO, hdl, hk⟩
  simp only [] at hi hO hdl hk ⊢
  have hN := hO.own
  by_cases hlt : i < l.length
  · obtain ⟨o, ho⟩ : ∃ o, l[i]? = some o := ⟨_, List.getElem?_eq_getElem hlt⟩
    obtain ⟨b, off, c, e, fz, rfl, hkn, hp⟩ := hop (by omega)
    have h1 := hp.get ho
    have hdr : l.drop i = o :: l.drop (i + 1) := by
      rw [← List.getElem_cons_drop (h := hlt), (List.getElem?_eq_some_iff.1 ho).2]
    rw [hdr] at hk
    repeat' (first | (apply o_appH (enc := opC) (ys := [o]); infer_instance; infer_instance; infer_instance; exact rfl; exact opC_len; exact opC_one; exact rfl; exact rfl; exact rfl; assumption; (repeat (first | exact RemL.hd | exact RemL.all | exact RemL.nil | apply RemL.tl | apply RemL.right)); (exact fun w hw => SV.lit [o] opC_len hw (by ((focus (repeat (first | assumption | exact At.hd | refine At.tl ?_ | (refine At.left ?_; assumption) | refine At.right ?_))) <;> done)) rfl rfl (by decide)); (first | decide | (constructor <;> (try simp only [List.length_cons, List.length_nil]) <;> omega) | (constructor <;> simp <;> omega)); intro _ _ _ _) | ((with_reducible first | apply o_move | apply o_assign | apply o_faddr0); exact rfl; exact rfl) | ((with_reducible apply o_lss); exact rfl; exact rfl; exact rfl) | ((with_reducible apply o_add); exact rfl; exact rfl; exact rfl; (constructor <;> omega)) | ((with_reducible apply o_len); infer_instance; exact rfl; exact rfl) | ((with_reducible first | apply c_seq | apply c_block | apply c_region | apply c_nil | apply c_ret | apply c_exit | apply c_unroll | apply c_skip)) | ((with_reducible apply c_cond_t); exact rfl; exact tT_) | ((with_reducible first | apply e_then | apply e_then_ret | apply e_then_exit | apply e_in | apply e_in_ret | apply e_in_same)) | ((with_reducible apply c_regionD (id := 5) [] 13); kernel_rfl; kernel_rfl; simp only [List.take_succ_cons, List.take_zero, List.drop_succ_cons, List.drop_zero]) | ((with_reducible apply q_nil); try simp only [ents, List.cons_append, List.nil_append]) | ((with_reducible first | apply q_move | apply q_assign | apply q_faddr0); exact rfl; exact rfl) | ((with_reducible apply q_faddr); exact rfl; exact rfl) | ((with_reducible apply gdq_load); first | refine wq_load (h := ?_) | refine wq_loadAll (h := ?_) | refine wq_loadC (h := ?_) | refine wq_ldV (h := ?_) | refine wq_ldF (h := ?_)) | ((with_reducible apply gdq_build); first | refine wq_build (h := ?_) | refine wq_buildA (h := ?_)) | ((with_reducible apply q_idx); infer_instance; infer_instance; exact rfl; exact rfl; (first | exact rfl | omega); exact rfl; (first | assumption | omega | decide)) | ((with_reducible apply gdq_buildSlice); refine wq_buildSlice (h := fun _ => ?_)))
    all_goals
      rename_i a' cap' N' hO'
      refine l_again (i + 1, done ++ [o], (a', cap'), N') ⟨by simp only []; omega, hO', by simp; omega, by simp only []; rw [List.append_assoc]; exact hk⟩ (by simp only []; omega) ?_ ?_
      · (repeat (first | exact FSub.nil | refine FSub.cons rfl ?_))
      · ((try dsimp only); repeat (first | exact HSub.nil rfl | (apply HSub.take; (repeat (first | exact Rem.hd | apply Rem.tl | apply Rem.right))) | exact HSub.same | apply HSub.drop | (apply HSub.takeL; (focus ((repeat (first | exact RemL.hd | exact RemL.all | exact RemL.nil | apply RemL.tl | apply RemL.right))))) | (apply HSub.takeA; (first | exact RemL.hd | exact RemL.all); ((focus (repeat (first | exact AO.nil | apply AO.cons | (apply AO.app; assumption)))) <;> done)) | (apply HSub.dropL; assumption) | (apply HSub.takeA; (focus ((repeat (first | exact RemL.hd | exact RemL.all | exact RemL.nil | apply RemL.tl | apply RemL.right)))); ((focus (repeat (first | exact AO.nil | apply AO.cons | (apply AO.app; assumption)))) <;> done)) | (apply HSub.nilA; ((focus (repeat (first | exact AO.nil | apply AO.cons | (apply AO.app; assumption)))) <;> done))))
  · have hil : i = l.length := by omega
    rw [hil, List.drop_length, List.append_nil] at hk
    subst hk
    repeat' (first | ((with_reducible first | apply o_move | apply o_assign | apply o_faddr0); exact rfl; exact rfl) | ((with_reducible apply o_lss); exact rfl; exact rfl; exact rfl) | ((with_reducible apply o_len); infer_instance; exact rfl; exact rfl) | ((with_reducible first | apply c_seq | apply c_block | apply c_region | apply c_nil | apply c_ret | apply c_exit | apply c_unroll | apply c_skip)) | ((with_reducible apply c_cond_f); exact rfl; exact fF_) | ((with_reducible first | apply e_then | apply e_then_ret | apply e_then_exit | apply e_in | apply e_in_ret | apply e_in_same)))
    apply r_body; apply res1 Try.results40; exact rV_; intro w' hw
    exact ⟨_, N, rfl, ⟨ad, capd, rfl, hO, hO.own⟩, hw.sub (by rw [List.append_nil]; exact HSub.same), hO.own⟩
theorem rcost_calls {c : Edit.Cs} {lv : Value} {l : List Edit.Op} (w : World) (hl : SV w 2 opC lv l) (hu : ∀ o ∈ l, o.u8) : Calls Try.prog 41 #[lv, costV c] w fun e w' => e = .returned (costR c l) ∧ Below w.heap.size w w' := by
  obtain ⟨a0, ca, rfl, hca, hop⟩ := hl.open
  by_cases hc : c.ok
  · have hr : ∀ w, Calls Try.prog 29 #[costV c] w fun e w' => e = .returned (.bool true) ∧ Below w.heap.size w w' := fun w => by
      have := rright_calls c w; rwa [B_true hc] at this
    have hc' := hc
    unfold Edit.Cs.ok at hc'
    unfold costR
    rw [if_pos hc]
    by_cases hlong : 120 < l.length
    · rw [if_pos hlong]
      refine f_enter2 Try.func41 rfl Try.ntmps41 rfl (Rep.start w) ?_
      repeat' (first | ((first | ((with_reducible apply o_call_pure (f := 29)); exact rfl) | ((with_reducible apply q_call_pure (f := 29)); exact rfl; kernel_rfl; exact rfl; (focus (repeat (first | (apply SubJ.keep; (decide +kernel)) | apply SubJ.drop | exact SubJ.nil))))); (repeat (first | exact Evs.nil | apply Evs.cons rfl)); exact (fun w _ => hr w)) | ((with_reducible first | apply o_move | apply o_assign | apply o_faddr0 | apply o_not_d); exact rfl; exact rfl) | ((with_reducible apply gdo_load); first | refine wo_load (h := ?_) | refine wo_loadAll (h := ?_) | refine wo_loadC (h := ?_) | refine wo_ldV (h := ?_) | refine wo_ldF (h := ?_)) | ((with_reducible first | apply o_lss | apply o_gtr | apply o_eql); exact rfl; exact rfl; exact rfl) | ((with_reducible apply o_not); exact rfl; exact rfl) | ((with_reducible apply o_box); exact rfl; exact rfl; exact rfl; intro _) | ((with_reducible apply o_len); infer_instance; exact rfl; exact rfl) | ((with_reducible first | apply c_seq | apply c_block | apply c_region | apply c_nil | apply c_ret | apply c_exit | apply c_unroll | apply c_skip)) | ((with_reducible apply c_cond_t); exact rfl; exact tT_) | ((with_reducible apply c_cond_f); exact rfl; exact fF_) | ((with_reducible first | apply e_then | apply e_then_ret | apply e_then_exit | apply e_in | apply e_in_ret | apply e_in_same)))
      apply r_body; apply res2 Try.results41; exact rV_; exact rV_; intro w' hw
      exact ⟨rfl, hw.below (by simp)⟩
    rw [if_neg hlong]
    refine f_enter2 Try.func41 rfl Try.ntmps41 rfl (Rep.start w) ?_
    repeat' (first | ((first | ((with_reducible apply o_call_pure (f := 29)); exact rfl) | ((with_reducible apply q_call_pure (f := 29)); exact rfl; kernel_rfl; exact rfl; (focus (repeat (first | (apply SubJ.keep; (decide +kernel)) | apply SubJ.drop | exact SubJ.nil))))); (repeat (first | exact Evs.nil | apply Evs.cons rfl)); exact (fun w _ => hr w)) | ((with_reducible first | apply o_move | apply o_assign | apply o_faddr0 | apply o_not_d); exact rfl; exact rfl) | ((with_reducible apply gdo_load); first | refine wo_load (h := ?_) | refine wo_loadAll (h := ?_) | refine wo_loadC (h := ?_) | refine wo_ldV (h := ?_) | refine wo_ldF (h := ?_)) | ((with_reducible first | apply o_lss | apply o_gtr | apply o_eql); exact rfl; exact rfl; exact rfl) | ((with_reducible apply o_not); exact rfl; exact rfl) | ((with_reducible apply o_box); exact rfl; exact rfl; exact rfl; intro _) | ((with_reducible apply o_len); infer_instance; exact rfl; exact rfl) | ((with_reducible first | apply c_seq | apply c_block | apply c_region | apply c_nil | apply c_ret | apply c_exit | apply c_unroll | apply c_skip)) | ((with_reducible apply c_cond_f); exact rfl; exact fF_) | ((with_reducible first | apply e_then | apply e_then_ret | apply e_then_exit | apply e_in | apply e_in_ret | apply e_in_same)))
    rename_i bc
    apply c_loop (σ := Nat × Int)
      (Fs := fun t => [(7, .int .i64 t.1), (6, .int .i64 t.2), (0, .slice a0 l.length ca), (3, ptr bc)])
      (Ls := fun t => [⟨bc, Ce (costC c) 58, true⟩])
      (I := fun t => t.1 ≤ l.length ∧ (0 ≤ t.2 ∧ t.2 ≤ 1000 * t.1) ∧ Edit.cost c l = (Edit.cost c (l.drop t.1)).map (t.2 + ·))
      (μ := fun t => l.length - t.1) (s0 := (0, 0))
    · refine ⟨Nat.zero_le _, ⟨Int.le_refl _, by simp⟩, ?_⟩
      simp only [List.drop_zero, Int.zero_add]
      cases Edit.cost c l <;> rfl
    · (repeat (first | exact FSub.nil | refine FSub.cons rfl ?_))
    · ((try dsimp only); repeat (first | exact HSub.nil rfl | (apply HSub.take; (repeat (first | exact Rem.hd | apply Rem.tl | apply Rem.right))) | exact HSub.same | apply HSub.drop | (apply HSub.takeL; (focus ((repeat (first | exact RemL.hd | exact RemL.all | exact RemL.nil | apply RemL.tl | apply RemL.right))))) | (apply HSub.takeA; (first | exact RemL.hd | exact RemL.all); ((focus (repeat (first | exact AO.nil | apply AO.cons | (apply AO.app; assumption)))) <;> done)) | (apply HSub.dropL; assumption) | (apply HSub.takeA; (focus ((repeat (first | exact RemL.hd | exact RemL.all | exact RemL.nil | apply RemL.tl | apply RemL.right)))); ((focus (repeat (first | exact AO.nil | apply AO.cons | (apply AO.app; assumption)))) <;> done)) | (apply HSub.nilA; ((focus (repeat (first | exact AO.nil | apply AO.cons | (apply AO.app; assumption)))) <;> done))))
    rintro ⟨i, s⟩ ⟨hi, hs, hap⟩
    simp only [] at hi hs hap ⊢
    by_cases hlt : i < l.length
    · obtain ⟨o, ho⟩ : ∃ o, l[i]? = some o := ⟨_, List.getElem?_eq_getElem hlt⟩
      obtain ⟨b, off, c', e, fz, rfl, hk, hp⟩ := hop (by omega)
      have h1 := hp.get ho
      obtain ⟨kd, y⟩ := o
      have hdr : l.drop i = ⟨kd, y⟩ :: l.drop (i + 1) := by
        rw [← List.getElem_cons_drop (h := hlt), (List.getElem?_eq_some_iff.1 ho).2]
      rw [hdr, Edit.cost] at hap
      have hk5 : kd = 1 ∨ kd = 2 ∨ kd = 3 ∨ kd = 4 ∨ kd = 5 ∨ ¬ (1 ≤ kd ∧ kd ≤ 5) := by omega
      rcases hk5 with rfl | rfl | rfl | rfl | rfl | hk5
      · rw [if_pos (by simp)] at hap
        repeat' (first | ((with_reducible first | apply o_move | apply o_assign | apply o_faddr0 | apply o_not_d); exact rfl; exact rfl) | ((with_reducible first | apply o_faddr | apply o_not_B); exact rfl; exact rfl) | ((with_reducible apply gdo_load); first | refine wo_load (h := ?_) | refine wo_loadAll (h := ?_) | refine wo_loadC (h := ?_) | refine wo_ldV (h := ?_) | refine wo_ldF (h := ?_)) | ((with_reducible first | apply o_lss | apply o_gtr | apply o_eql); exact rfl; exact rfl; exact rfl) | ((with_reducible apply o_add); exact rfl; exact rfl; exact rfl; (constructor <;> omega)) | ((with_reducible apply o_len); infer_instance; exact rfl; exact rfl) | ((with_reducible apply o_idx); infer_instance; infer_instance; exact rfl; exact rfl; (first | exact rfl | omega); exact rfl; (first | assumption | omega | decide)) | ((with_reducible first | apply c_seq | apply c_block | apply c_region | apply c_nil | apply c_ret | apply c_exit | apply c_unroll | apply c_skip)) | ((with_reducible apply c_cond_t); exact rfl; exact tT_) | ((with_reducible first | apply e_then | apply e_then_ret | apply e_then_exit | apply e_in | apply e_in_ret | apply e_in_same)))
        refine l_again (i + 1, s) ⟨by simp only []; omega, by simp only []; omega, ?_⟩ (by simp only []; omega) ?_ ?_
        · simp only []
          rw [hap]
          cases Edit.cost c (l.drop (i + 1)) <;> simp [Int.add_assoc, Edit.pr]
        · (repeat (first | exact FSub.nil | refine FSub.cons rfl ?_))
        · ((try dsimp only); repeat (first | exact HSub.nil rfl | (apply HSub.take; (repeat (first | exact Rem.hd | apply Rem.tl | apply Rem.right))) | exact HSub.same | apply HSub.drop | (apply HSub.takeL; (focus ((repeat (first | exact RemL.hd | exact RemL.all | exact RemL.nil | apply RemL.tl | apply RemL.right))))) | (apply HSub.takeA; (first | exact RemL.hd | exact RemL.all); ((focus (repeat (first | exact AO.nil | apply AO.cons | (apply AO.app; assumption)))) <;> done)) | (apply HSub.dropL; assumption) | (apply HSub.takeA; (focus ((repeat (first | exact RemL.hd | exact RemL.all | exact RemL.nil | apply RemL.tl | apply RemL.right)))); ((focus (repeat (first | exact AO.nil | apply AO.cons | (apply AO.app; assumption)))) <;> done)) | (apply HSub.nilA; ((focus (repeat (first | exact AO.nil | apply AO.cons | (apply AO.app; assumption)))) <;> done))))
      · rw [if_pos (by simp)] at hap
        repeat' (first | ((with_reducible first | apply o_move | apply o_assign | apply o_faddr0 | apply o_not_d); exact rfl; exact rfl) | ((with_reducible first | apply o_faddr | apply o_not_B); exact rfl; exact rfl) | ((with_reducible apply gdo_load); first | refine wo_load (h := ?_) | refine wo_loadAll (h := ?_) | refine wo_loadC (h := ?_) | refine wo_ldV (h := ?_) | refine wo_ldF (h := ?_)) | ((with_reducible first | apply o_lss | apply o_gtr | apply o_eql); exact rfl; exact rfl; exact rfl) | ((with_reducible apply o_add); exact rfl; exact rfl; exact rfl; (constructor <;> omega)) | ((with_reducible apply o_len); infer_instance; exact rfl; exact rfl) | ((with_reducible apply o_idx); infer_instance; infer_instance; exact rfl; exact rfl; (first | exact rfl | omega); exact rfl; (first | assumption | omega | decide)) | ((with_reducible first | apply c_seq | apply c_block | apply c_region | apply c_nil | apply c_ret | apply c_exit | apply c_unroll | apply c_skip)) | ((with_reducible apply c_cond_t); exact rfl; exact tT_) | ((with_reducible apply c_cond_f); exact rfl; exact fF_) | ((with_reducible first | apply e_then | apply e_then_ret | apply e_then_exit | apply e_in | apply e_in_ret | apply e_in_same)))
        refine l_again (i + 1, s + c.chg) ⟨by simp only []; omega, by simp only []; omega, ?_⟩ (by simp only []; omega) ?_ ?_
        · simp only []
          rw [hap]
          cases Edit.cost c (l.drop (i + 1)) <;> simp [Int.add_assoc, Edit.pr]
        · (repeat (first | exact FSub.nil | refine FSub.cons rfl ?_))
        · ((try dsimp only); repeat (first | exact HSub.nil rfl | (apply HSub.take; (repeat (first | exact Rem.hd | apply Rem.tl | apply Rem.right))) | exact HSub.same | apply HSub.drop | (apply HSub.takeL; (focus ((repeat (first | exact RemL.hd | exact RemL.all | exact RemL.nil | apply RemL.tl | apply RemL.right))))) | (apply HSub.takeA; (first | exact RemL.hd | exact RemL.all); ((focus (repeat (first | exact AO.nil | apply AO.cons | (apply AO.app; assumption)))) <;> done)) | (apply HSub.dropL; assumption) | (apply HSub.takeA; (focus ((repeat (first | exact RemL.hd | exact RemL.all | exact RemL.nil | apply RemL.tl | apply RemL.right)))); ((focus (repeat (first | exact AO.nil | apply AO.cons | (apply AO.app; assumption)))) <;> done)) | (apply HSub.nilA; ((focus (repeat (first | exact AO.nil | apply AO.cons | (apply AO.app; assumption)))) <;> done))))
      · rw [if_pos (by simp)] at hap
        repeat' (first | ((with_reducible first | apply o_move | apply o_assign | apply o_faddr0 | apply o_not_d); exact rfl; exact rfl) | ((with_reducible first | apply o_faddr | apply o_not_B); exact rfl; exact rfl) | ((with_reducible apply gdo_load); first | refine wo_load (h := ?_) | refine wo_loadAll (h := ?_) | refine wo_loadC (h := ?_) | refine wo_ldV (h := ?_) | refine wo_ldF (h := ?_)) | ((with_reducible first | apply o_lss | apply o_gtr | apply o_eql); exact rfl; exact rfl; exact rfl) | ((with_reducible apply o_add); exact rfl; exact rfl; exact rfl; (constructor <;> omega)) | ((with_reducible apply o_len); infer_instance; exact rfl; exact rfl) | ((with_reducible apply o_idx); infer_instance; infer_instance; exact rfl; exact rfl; (first | exact rfl | omega); exact rfl; (first | assumption | omega | decide)) | ((with_reducible first | apply c_seq | apply c_block | apply c_region | apply c_nil | apply c_ret | apply c_exit | apply c_unroll | apply c_skip)) | ((with_reducible apply c_cond_t); exact rfl; exact tT_) | ((with_reducible apply c_cond_f); exact rfl; exact fF_) | ((with_reducible first | apply e_then | apply e_then_ret | apply e_then_exit | apply e_in | apply e_in_ret | apply e_in_same)))
        refine l_again (i + 1, s + c.swp) ⟨by simp only []; omega, by simp only []; omega, ?_⟩ (by simp only []; omega) ?_ ?_
        · simp only []
          rw [hap]
          cases Edit.cost c (l.drop (i + 1)) <;> simp [Int.add_assoc, Edit.pr]
        · (repeat (first | exact FSub.nil | refine FSub.cons rfl ?_))
        · ((try dsimp only); repeat (first | exact HSub.nil rfl | (apply HSub.take; (repeat (first | exact Rem.hd | apply Rem.tl | apply Rem.right))) | exact HSub.same | apply HSub.drop | (apply HSub.takeL; (focus ((repeat (first | exact RemL.hd | exact RemL.all | exact RemL.nil | apply RemL.tl | apply RemL.right))))) | (apply HSub.takeA; (first | exact RemL.hd | exact RemL.all); ((focus (repeat (first | exact AO.nil | apply AO.cons | (apply AO.app; assumption)))) <;> done)) | (apply HSub.dropL; assumption) | (apply HSub.takeA; (focus ((repeat (first | exact RemL.hd | exact RemL.all | exact RemL.nil | apply RemL.tl | apply RemL.right)))); ((focus (repeat (first | exact AO.nil | apply AO.cons | (apply AO.app; assumption)))) <;> done)) | (apply HSub.nilA; ((focus (repeat (first | exact AO.nil | apply AO.cons | (apply AO.app; assumption)))) <;> done))))
      · rw [if_pos (by simp)] at hap
        repeat' (first | ((with_reducible first | apply o_move | apply o_assign | apply o_faddr0 | apply o_not_d); exact rfl; exact rfl) | ((with_reducible first | apply o_faddr | apply o_not_B); exact rfl; exact rfl) | ((with_reducible apply gdo_load); first | refine wo_load (h := ?_) | refine wo_loadAll (h := ?_) | refine wo_loadC (h := ?_) | refine wo_ldV (h := ?_) | refine wo_ldF (h := ?_)) | ((with_reducible first | apply o_lss | apply o_gtr | apply o_eql); exact rfl; exact rfl; exact rfl) | ((with_reducible apply o_add); exact rfl; exact rfl; exact rfl; (constructor <;> omega)) | ((with_reducible apply o_len); infer_instance; exact rfl; exact rfl) | ((with_reducible apply o_idx); infer_instance; infer_instance; exact rfl; exact rfl; (first | exact rfl | omega); exact rfl; (first | assumption | omega | decide)) | ((with_reducible first | apply c_seq | apply c_block | apply c_region | apply c_nil | apply c_ret | apply c_exit | apply c_unroll | apply c_skip)) | ((with_reducible apply c_cond_t); exact rfl; exact tT_) | ((with_reducible apply c_cond_f); exact rfl; exact fF_) | ((with_reducible first | apply e_then | apply e_then_ret | apply e_then_exit | apply e_in | apply e_in_ret | apply e_in_same)))
        refine l_again (i + 1, s + c.del) ⟨by simp only []; omega, by simp only []; omega, ?_⟩ (by simp only []; omega) ?_ ?_
        · simp only []
          rw [hap]
          cases Edit.cost c (l.drop (i + 1)) <;> simp [Int.add_assoc, Edit.pr]
        · (repeat (first | exact FSub.nil | refine FSub.cons rfl ?_))
        · ((try dsimp only); repeat (first | exact HSub.nil rfl | (apply HSub.take; (repeat (first | exact Rem.hd | apply Rem.tl | apply Rem.right))) | exact HSub.same | apply HSub.drop | (apply HSub.takeL; (focus ((repeat (first | exact RemL.hd | exact RemL.all | exact RemL.nil | apply RemL.tl | apply RemL.right))))) | (apply HSub.takeA; (first | exact RemL.hd | exact RemL.all); ((focus (repeat (first | exact AO.nil | apply AO.cons | (apply AO.app; assumption)))) <;> done)) | (apply HSub.dropL; assumption) | (apply HSub.takeA; (focus ((repeat (first | exact RemL.hd | exact RemL.all | exact RemL.nil | apply RemL.tl | apply RemL.right)))); ((focus (repeat (first | exact AO.nil | apply AO.cons | (apply AO.app; assumption)))) <;> done)) | (apply HSub.nilA; ((focus (repeat (first | exact AO.nil | apply AO.cons | (apply AO.app; assumption)))) <;> done))))
      · rw [if_pos (by simp)] at hap
        repeat' (first | ((with_reducible first | apply o_move | apply o_assign | apply o_faddr0 | apply o_not_d); exact rfl; exact rfl) | ((with_reducible first | apply o_faddr | apply o_not_B); exact rfl; exact rfl) | ((with_reducible apply gdo_load); first | refine wo_load (h := ?_) | refine wo_loadAll (h := ?_) | refine wo_loadC (h := ?_) | refine wo_ldV (h := ?_) | refine wo_ldF (h := ?_)) | ((with_reducible first | apply o_lss | apply o_gtr | apply o_eql); exact rfl; exact rfl; exact rfl) | ((with_reducible apply o_add); exact rfl; exact rfl; exact rfl; (constructor <;> omega)) | ((with_reducible apply o_len); infer_instance; exact rfl; exact rfl) | ((with_reducible apply o_idx); infer_instance; infer_instance; exact rfl; exact rfl; (first | exact rfl | omega); exact rfl; (first | assumption | omega | decide)) | ((with_reducible first | apply c_seq | apply c_block | apply c_region | apply c_nil | apply c_ret | apply c_exit | apply c_unroll | apply c_skip)) | ((with_reducible apply c_cond_t); exact rfl; exact tT_) | ((with_reducible apply c_cond_f); exact rfl; exact fF_) | ((with_reducible first | apply e_then | apply e_then_ret | apply e_then_exit | apply e_in | apply e_in_ret | apply e_in_same)))
        refine l_again (i + 1, s + c.ins) ⟨by simp only []; omega, by simp only []; omega, ?_⟩ (by simp only []; omega) ?_ ?_
        · simp only []
          rw [hap]
          cases Edit.cost c (l.drop (i + 1)) <;> simp [Int.add_assoc, Edit.pr]
        · (repeat (first | exact FSub.nil | refine FSub.cons rfl ?_))
        · ((try dsimp only); repeat (first | exact HSub.nil rfl | (apply HSub.take; (repeat (first | exact Rem.hd | apply Rem.tl | apply Rem.right))) | exact HSub.same | apply HSub.drop | (apply HSub.takeL; (focus ((repeat (first | exact RemL.hd | exact RemL.all | exact RemL.nil | apply RemL.tl | apply RemL.right))))) | (apply HSub.takeA; (first | exact RemL.hd | exact RemL.all); ((focus (repeat (first | exact AO.nil | apply AO.cons | (apply AO.app; assumption)))) <;> done)) | (apply HSub.dropL; assumption) | (apply HSub.takeA; (focus ((repeat (first | exact RemL.hd | exact RemL.all | exact RemL.nil | apply RemL.tl | apply RemL.right)))); ((focus (repeat (first | exact AO.nil | apply AO.cons | (apply AO.app; assumption)))) <;> done)) | (apply HSub.nilA; ((focus (repeat (first | exact AO.nil | apply AO.cons | (apply AO.app; assumption)))) <;> done))))
      · rw [if_neg (by simpa using hk5)] at hap
        repeat' (first | ((with_reducible first | apply o_move | apply o_assign | apply o_faddr0 | apply o_not_d); exact rfl; exact rfl) | ((with_reducible first | apply o_faddr | apply o_not_B); exact rfl; exact rfl) | ((with_reducible apply gdo_load); first | refine wo_load (h := ?_) | refine wo_loadAll (h := ?_) | refine wo_loadC (h := ?_) | refine wo_ldV (h := ?_) | refine wo_ldF (h := ?_)) | ((with_reducible first | apply o_lss | apply o_gtr | apply o_eql); exact rfl; exact rfl; exact rfl) | ((with_reducible apply o_add); exact rfl; exact rfl; exact rfl; (constructor <;> omega)) | ((with_reducible apply o_len); infer_instance; exact rfl; exact rfl) | ((with_reducible apply o_idx); infer_instance; infer_instance; exact rfl; exact rfl; (first | exact rfl | omega); exact rfl; (first | assumption | omega | decide)) | ((with_reducible first | apply c_seq | apply c_block | apply c_region | apply c_nil | apply c_ret | apply c_exit | apply c_unroll | apply c_skip)) | ((with_reducible apply c_cond_t); exact rfl; exact tT_) | ((with_reducible first | apply e_then | apply e_then_ret | apply e_then_exit | apply e_in | apply e_in_ret | apply e_in_same)) | ((with_reducible apply c_cond_d); exact rfl; intro hcond; rotate_left; intro hcond; rotate_left))
        all_goals first
          | (exfalso; omega)
          | (exfalso; simp only [] at *; omega)
          | (apply r_body; apply res2 Try.results41; exact rV_; exact rV_; intro w' hw
             rw [hap]
             exact ⟨rfl, hw.below (show AO _ from by ((focus (repeat (first | exact AO.nil | apply AO.cons | (apply AO.app; assumption)))) <;> done))⟩)
    · have hil : i = l.length := by omega
      subst hil
      rw [List.drop_length] at hap
      repeat' (first | ((with_reducible first | apply o_move | apply o_assign | apply o_faddr0 | apply o_not_d); exact rfl; exact rfl) | ((with_reducible first | apply o_lss | apply o_gtr | apply o_eql); exact rfl; exact rfl; exact rfl) | ((with_reducible apply o_len); infer_instance; exact rfl; exact rfl) | ((with_reducible first | apply c_seq | apply c_block | apply c_region | apply c_nil | apply c_ret | apply c_exit | apply c_unroll | apply c_skip)) | ((with_reducible apply c_cond_f); exact rfl; exact fF_) | ((with_reducible first | apply e_then | apply e_then_ret | apply e_then_exit | apply e_in | apply e_in_ret | apply e_in_same)))
      apply r_body; apply res2 Try.results41; exact rV_; exact rV_; intro w' hw
      refine ⟨?_, hw.below (show AO _ from by ((focus (repeat (first | exact AO.nil | apply AO.cons | (apply AO.app; assumption)))) <;> done))⟩
      rw [hap]
      simp [Edit.cost]
  · have hr : ∀ w, Calls Try.prog 29 #[costV c] w fun e w' => e = .returned (.bool false) ∧ Below w.heap.size w w' := fun w => by
      have := rright_calls c w; rwa [B_false hc] at this
    unfold costR
    rw [if_neg hc]
    refine f_enter2 Try.func41 rfl Try.ntmps41 rfl (Rep.start w) ?_
    repeat' (first | ((first | ((with_reducible apply o_call_pure (f := 29)); exact rfl) | ((with_reducible apply q_call_pure (f := 29)); exact rfl; kernel_rfl; exact rfl; (focus (repeat (first | (apply SubJ.keep; (decide +kernel)) | apply SubJ.drop | exact SubJ.nil))))); (repeat (first | exact Evs.nil | apply Evs.cons rfl)); exact (fun w _ => hr w)) | ((with_reducible first | apply o_move | apply o_assign | apply o_faddr0 | apply o_not_d); exact rfl; exact rfl) | ((with_reducible apply gdo_load); first | refine wo_load (h := ?_) | refine wo_loadAll (h := ?_) | refine wo_loadC (h := ?_) | refine wo_ldV (h := ?_) | refine wo_ldF (h := ?_)) | ((with_reducible apply o_not); exact rfl; exact rfl) | ((with_reducible apply o_box); exact rfl; exact rfl; exact rfl; intro _) | ((with_reducible first | apply c_seq | apply c_block | apply c_region | apply c_nil | apply c_ret | apply c_exit | apply c_unroll | apply c_skip)) | ((with_reducible apply c_cond_t); exact rfl; exact tT_) | ((with_reducible first | apply e_then | apply e_then_ret | apply e_then_exit | apply e_in | apply e_in_ret | apply e_in_same)))
    apply r_body; apply res2 Try.results41; exact rV_; exact rV_; intro w' hw
    exact ⟨rfl, hw.below (by simp)⟩
end Go.Proofs.Ytgkejkfodigdiaa
