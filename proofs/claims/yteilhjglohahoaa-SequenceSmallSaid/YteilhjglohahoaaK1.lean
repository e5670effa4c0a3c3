/-
  A part of the proofs of this seat: what some of the program's functions compute, shown by walks through their code. Conditions: the hypotheses that each theorem names. (Its blocks of tactics were laid by a small program.)
-/
import Derived.Test.YteilhjglohahoaaFx
set_option linter.unusedSimpArgs false
set_option linter.unusedVariables false
namespace Go.Proofs.Yteilhjglohahoaa
open Go Go.Sx Go.RowKit
/-! ## tactics kept short -/
theorem tT_ {t : Bool} (h : t = true := by (first | rfl | assumption | exact decide_eq_true (by first | assumption | omega) | exact B_true (by first | assumption | omega | decide))) : t = true := h
theorem fF_ {t : Bool} (h : t = false := by (first | rfl | assumption | exact decide_eq_false (by first | assumption | omega) | exact B_false (by first | assumption | omega | decide))) : t = false := h
theorem gG_ {c b : Bool} (h : c = b := by (first | rfl | assumption | exact decide_eq_true (by first | assumption | omega) | exact B_true (by first | assumption | omega | decide) | rfl | assumption | exact decide_eq_false (by first | assumption | omega) | exact B_false (by first | assumption | omega | decide))) : c = b := h
theorem rV_ {P : Program} {n : Nat} {D : List Deferred} {w0 : World} {F : List (Nat × Value)} {L : List Ent} {r : ResultVar} {v : Value} (h : ResV P n D w0 F L r v := by (first | exact rv_tmp rfl | (apply rv_cell; infer_instance; rfl; (first | exact Kn.old (by assumption) rfl | (apply Kn.oldA; assumption; ((focus (repeat (first | exact AO.nil | apply AO.cons | (apply AO.app; assumption)))) <;> done)) | (apply Kn.apart; assumption; ((focus (repeat (first | exact Apart.nil | apply Apart.own | (apply Apart.given; assumption) | (apply Apart.app; assumption)))) <;> done)) | (refine Kn.at ?_; ((focus (repeat (first | assumption | exact At.hd | refine At.tl ?_ | (refine At.left ?_; assumption) | refine At.right ?_))) <;> done))); (repeat (first | exact Nth.z | apply Nth.s))) | (apply rv_cellA; infer_instance; infer_instance; rfl; (first | exact Kn.old (by assumption) rfl | (apply Kn.oldA; assumption; ((focus (repeat (first | exact AO.nil | apply AO.cons | (apply AO.app; assumption)))) <;> done)) | (apply Kn.apart; assumption; ((focus (repeat (first | exact Apart.nil | apply Apart.own | (apply Apart.given; assumption) | (apply Apart.app; assumption)))) <;> done)) | (refine Kn.at ?_; ((focus (repeat (first | assumption | exact At.hd | refine At.tl ?_ | (refine At.left ?_; assumption) | refine At.right ?_))) <;> done))); rfl))) : ResV P n D w0 F L r v := h
attribute [local irreducible] WL WC WQ St Exit.then Exit.inBlock bodyPost roundPost beginK YR RG BM Calls B
/-! ## the kit's functions on lists of numbers -/
set_option maxHeartbeats 1000000 in
theorem sameInts_calls {va vb : Value} {xs ys : List Int} (w : World) (ha : SV w 1 encI va xs) (hb : SV w 1 encI vb ys) : Calls Try.prog 21 #[va, vb] w fun e w' => e = .returned (.bool (B (xs = ys))) ∧ Below w.heap.size w w' := by
  obtain ⟨a0, ca, rfl, hca, ha⟩ := ha.open
  obtain ⟨b0, cb, rfl, hcb, hb⟩ := hb.open
  by_cases hl : xs.length = ys.length
  case neg =>
    refine f_enter2 Try.func21 rfl Try.ntmps21 rfl (Rep.start w) ?_
    repeat' (first | ((with_reducible first | apply o_move | apply o_assign); exact rfl; exact rfl) | ((with_reducible first | apply o_lss | apply o_neq); exact rfl; exact rfl; exact rfl) | ((with_reducible apply o_len); infer_instance; exact rfl; exact rfl) | ((with_reducible first | apply c_seq | apply c_block | apply c_region | apply c_nil | apply c_ret | apply c_exit | apply c_unroll | apply c_skip)) | ((with_reducible apply c_cond_t); exact rfl; exact tT_) | ((with_reducible first | apply e_then | apply e_then_ret | apply e_then_exit | apply e_in | apply e_in_ret | apply e_in_same)))
    apply r_body; apply res1 Try.results21; exact rV_; intro w' hw
    rw [B_false (fun h => hl (by rw [h]))]
    exact ⟨rfl, hw.below (by simp)⟩
  refine f_enter2 Try.func21 rfl Try.ntmps21 rfl (Rep.start w) ?_
  repeat' (first | ((with_reducible first | apply o_move | apply o_assign); exact rfl; exact rfl) | ((with_reducible first | apply o_lss | apply o_neq); exact rfl; exact rfl; exact rfl) | ((with_reducible apply o_len); infer_instance; exact rfl; exact rfl) | ((with_reducible first | apply c_seq | apply c_block | apply c_region | apply c_nil | apply c_ret | apply c_exit | apply c_unroll | apply c_skip)) | ((with_reducible apply c_cond_f); exact rfl; exact fF_) | ((with_reducible first | apply e_then | apply e_then_ret | apply e_then_exit | apply e_in | apply e_in_ret | apply e_in_same)))
  apply c_loop (σ := Nat) (Fs := fun i => [(5, .int .i64 i), (0, .slice a0 xs.length ca), (1, .slice b0 ys.length cb), (4, .bool false)])
    (Ls := fun i => []) (I := fun i => i ≤ xs.length ∧ xs.take i = ys.take i) (μ := fun i => xs.length - i) (s0 := 0)
  · exact ⟨Nat.zero_le _, by simp⟩
  · (repeat (first | exact FSub.nil | refine FSub.cons rfl ?_))
  · ((try dsimp only); repeat (first | exact HSub.nil rfl | (apply HSub.take; (repeat (first | exact Rem.hd | apply Rem.tl | apply Rem.right))) | exact HSub.same | (apply HSub.takeL; ((focus (repeat (first | exact RemL.hd | exact RemL.all | exact RemL.nil | apply RemL.tl | apply RemL.right))) <;> done)) | apply HSub.drop | (apply HSub.takeL; (focus ((repeat (first | exact RemL.hd | exact RemL.all | exact RemL.nil | apply RemL.tl | apply RemL.right))))) | (apply HSub.takeA; (first | exact RemL.hd | exact RemL.all); ((focus (repeat (first | exact AO.nil | apply AO.cons | (apply AO.app; assumption)))) <;> done)) | (apply HSub.dropL; assumption) | (apply HSub.takeA; (focus ((repeat (first | exact RemL.hd | exact RemL.all | exact RemL.nil | apply RemL.tl | apply RemL.right)))); ((focus (repeat (first | exact AO.nil | apply AO.cons | (apply AO.app; assumption)))) <;> done)) | (apply HSub.nilA; ((focus (repeat (first | exact AO.nil | apply AO.cons | (apply AO.app; assumption)))) <;> done))))
  rintro i ⟨hi, heq⟩
  by_cases hlt : i < xs.length
  · obtain ⟨x, hx⟩ : ∃ x, xs[i]? = some x := ⟨_, List.getElem?_eq_getElem hlt⟩
    obtain ⟨y, hy⟩ : ∃ y, ys[i]? = some y := ⟨_, List.getElem?_eq_getElem (by omega)⟩
    obtain ⟨b, off, c, e, fz, rfl, hk, hp⟩ := ha (by omega)
    obtain ⟨b', off', c', e', fz', rfl, hk', hp'⟩ := hb (by omega)
    have h1 := hp.one hx rfl
    have h2 := hp'.one hy rfl
    by_cases hxy : x = y
    · repeat' (first | ((with_reducible first | apply o_move | apply o_assign); exact rfl; exact rfl) | ((with_reducible first | apply o_lss | apply o_neq); exact rfl; exact rfl; exact rfl) | ((with_reducible apply o_add); exact rfl; exact rfl; exact rfl; (constructor <;> omega)) | ((with_reducible apply o_len); infer_instance; exact rfl; exact rfl) | ((with_reducible first | apply c_seq | apply c_block | apply c_region | apply c_nil | apply c_ret | apply c_exit | apply c_unroll | apply c_skip)) | ((with_reducible apply c_cond_t); exact rfl; exact tT_) | ((with_reducible apply c_cond_f); exact rfl; exact fF_) | ((with_reducible first | apply e_then | apply e_then_ret | apply e_then_exit | apply e_in | apply e_in_ret | apply e_in_same)) | ((with_reducible apply c_regionD0 (id := 6) []); kernel_rfl; kernel_rfl) | ((with_reducible apply q_nil); try simp only [ents, List.cons_append, List.nil_append]) | ((with_reducible first | apply q_move | apply q_assign); exact rfl; exact rfl) | ((with_reducible apply gdq_load); first | refine wq_load (h := ?_) | refine wq_loadAll (h := ?_) | refine wq_loadC (h := ?_) | refine wq_ldV (h := ?_) | refine wq_ldF (h := ?_)) | ((with_reducible first | apply q_lss | apply q_neq); exact rfl; exact rfl; exact rfl) | ((with_reducible apply q_idx); infer_instance; infer_instance; exact rfl; exact rfl; (first | exact rfl | omega); exact rfl; (first | assumption | omega | decide)))
      refine l_again (i + 1) ⟨by omega, ?_⟩ (by omega) ?_ ?_
      · rw [List.take_add_one, List.take_add_one, heq, hx, hy, hxy]
      · (repeat (first | exact FSub.nil | refine FSub.cons rfl ?_))
      · ((try dsimp only); repeat (first | exact HSub.nil rfl | (apply HSub.take; (repeat (first | exact Rem.hd | apply Rem.tl | apply Rem.right))) | exact HSub.same | (apply HSub.takeL; ((focus (repeat (first | exact RemL.hd | exact RemL.all | exact RemL.nil | apply RemL.tl | apply RemL.right))) <;> done)) | apply HSub.drop | (apply HSub.takeL; (focus ((repeat (first | exact RemL.hd | exact RemL.all | exact RemL.nil | apply RemL.tl | apply RemL.right))))) | (apply HSub.takeA; (first | exact RemL.hd | exact RemL.all); ((focus (repeat (first | exact AO.nil | apply AO.cons | (apply AO.app; assumption)))) <;> done)) | (apply HSub.dropL; assumption) | (apply HSub.takeA; (focus ((repeat (first | exact RemL.hd | exact RemL.all | exact RemL.nil | apply RemL.tl | apply RemL.right)))); ((focus (repeat (first | exact AO.nil | apply AO.cons | (apply AO.app; assumption)))) <;> done)) | (apply HSub.nilA; ((focus (repeat (first | exact AO.nil | apply AO.cons | (apply AO.app; assumption)))) <;> done))))
    · repeat' (first | ((with_reducible first | apply o_move | apply o_assign); exact rfl; exact rfl) | ((with_reducible first | apply o_lss | apply o_neq); exact rfl; exact rfl; exact rfl) | ((with_reducible apply o_len); infer_instance; exact rfl; exact rfl) | ((with_reducible first | apply c_seq | apply c_block | apply c_region | apply c_nil | apply c_ret | apply c_exit | apply c_unroll | apply c_skip)) | ((with_reducible apply c_cond_t); exact rfl; exact tT_) | ((with_reducible first | apply e_then | apply e_then_ret | apply e_then_exit | apply e_in | apply e_in_ret | apply e_in_same)) | ((with_reducible apply c_regionD0 (id := 6) []); kernel_rfl; kernel_rfl) | ((with_reducible apply q_nil); try simp only [ents, List.cons_append, List.nil_append]) | ((with_reducible first | apply q_move | apply q_assign); exact rfl; exact rfl) | ((with_reducible apply gdq_load); first | refine wq_load (h := ?_) | refine wq_loadAll (h := ?_) | refine wq_loadC (h := ?_) | refine wq_ldV (h := ?_) | refine wq_ldF (h := ?_)) | ((with_reducible first | apply q_lss | apply q_neq); exact rfl; exact rfl; exact rfl) | ((with_reducible apply q_idx); infer_instance; infer_instance; exact rfl; exact rfl; (first | exact rfl | omega); exact rfl; (first | assumption | omega | decide)))
      apply r_body; apply res1 Try.results21; exact rV_; intro w' hw
      rw [B_false (fun h => hxy (by rw [h, hy] at hx; cases hx; rfl))]
      exact ⟨rfl, hw.below (by simp)⟩
  · repeat' (first | ((with_reducible first | apply o_move | apply o_assign); exact rfl; exact rfl) | ((with_reducible first | apply o_lss | apply o_neq); exact rfl; exact rfl; exact rfl) | ((with_reducible apply o_len); infer_instance; exact rfl; exact rfl) | ((with_reducible first | apply c_seq | apply c_block | apply c_region | apply c_nil | apply c_ret | apply c_exit | apply c_unroll | apply c_skip)) | ((with_reducible apply c_cond_f); exact rfl; exact fF_) | ((with_reducible first | apply e_then | apply e_then_ret | apply e_then_exit | apply e_in | apply e_in_ret | apply e_in_same)))
    apply r_body; apply res1 Try.results21; exact rV_; intro w' hw
    have : xs = ys := by rw [List.take_of_length_le (by omega), List.take_of_length_le (by omega)] at heq; exact heq
    rw [B_true this]
    exact ⟨rfl, hw.below (by simp)⟩
theorem copyInts_calls {va : Value} {xs : List Int} (w : World) (ha : SV w 1 encI va xs) (hn : xs.length ≤ 1000000000) : Calls Try.prog 49 #[va] w fun e w' => ∃ v N, e = .returned v ∧ OW 3 1 encI v xs N ∧ Rep w w' N ∧ ∀ x ∈ N, x.own = true := by
  refine f_enter1 Try.func49 rfl Try.ntmps49 rfl (Rep.start w) ?_
  have h0 : OW 3 1 encI (.slice none 0 0) [] [] := OW.nil
  repeat' (first | (apply o_appG (enc := encI); infer_instance; infer_instance; infer_instance; exact rfl; exact encI_len; exact encI_one; exact rfl; exact rfl; exact rfl; assumption; (repeat (first | exact RemL.hd | exact RemL.all | exact RemL.nil | apply RemL.tl | apply RemL.right)); (exact fun w hw => (ha.keep hw (by ((focus (repeat (first | exact AO.nil | apply AO.cons | (apply AO.app; assumption)))) <;> done)))); (first | decide | (constructor <;> (try simp only [List.length_cons, List.length_nil]) <;> omega) | (constructor <;> simp <;> omega)); intro _ _ _) | ((with_reducible first | apply o_move | apply o_assign); exact rfl; exact rfl) | ((with_reducible first | apply c_seq | apply c_block | apply c_region | apply c_nil | apply c_ret | apply c_exit | apply c_unroll | apply c_skip)) | ((with_reducible first | apply e_then | apply e_then_ret | apply e_then_exit | apply e_in | apply e_in_ret | apply e_in_same)))
  rename_i hN
  apply r_body; apply res1 Try.results49; exact rV_; intro w' hw
  exact ⟨_, _, rfl, by simpa using hN, by simpa using hw, hN.own⟩
end Go.Proofs.Yteilhjglohahoaa
