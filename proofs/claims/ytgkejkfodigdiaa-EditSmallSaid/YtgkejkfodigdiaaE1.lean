/-
  A part of the proofs of this seat: what some of the program's functions compute, shown by walks through their code. Conditions: the hypotheses that each theorem names. (Its blocks of tactics were laid by a small program.)
-/
import Derived.Test.YtgkejkfodigdiaaE0
import Derived.Test.YtgkejkfodigdiaaFx
set_option linter.unusedSimpArgs false
set_option linter.unusedVariables false
namespace Go.Proofs.Ytgkejkfodigdiaa
open Go Go.Sx Go.RowKit
/-! ## tactics kept short -/
theorem tT_ {t : Bool} (h : t = true := by (first | rfl | assumption | exact decide_eq_true (by first | assumption | omega) | exact B_true (by first | assumption | omega | decide))) : t = true := h
theorem fF_ {t : Bool} (h : t = false := by (first | rfl | assumption | exact decide_eq_false (by first | assumption | omega) | exact B_false (by first | assumption | omega | decide))) : t = false := h
theorem gG_ {c b : Bool} (h : c = b := by (first | rfl | assumption | exact decide_eq_true (by first | assumption | omega) | exact B_true (by first | assumption | omega | decide) | rfl | assumption | exact decide_eq_false (by first | assumption | omega) | exact B_false (by first | assumption | omega | decide))) : c = b := h
theorem rV_ {P : Program} {n : Nat} {D : List Deferred} {w0 : World} {F : List (Nat × Value)} {L : List Ent} {r : ResultVar} {v : Value} (h : ResV P n D w0 F L r v := by (first | exact rv_tmp rfl | (apply rv_cell; infer_instance; rfl; (first | exact Kn.old (by assumption) rfl | (apply Kn.oldA; assumption; ((focus (repeat (first | exact AO.nil | apply AO.cons | (apply AO.app; assumption)))) <;> done)) | (apply Kn.apart; assumption; ((focus (repeat (first | exact Apart.nil | apply Apart.own | (apply Apart.given; assumption) | (apply Apart.app; assumption)))) <;> done)) | (refine Kn.at ?_; ((focus (repeat (first | assumption | exact At.hd | refine At.tl ?_ | (refine At.left ?_; assumption) | refine At.right ?_))) <;> done))); (repeat (first | exact Nth.z | apply Nth.s))) | (apply rv_cellA; infer_instance; infer_instance; rfl; (first | exact Kn.old (by assumption) rfl | (apply Kn.oldA; assumption; ((focus (repeat (first | exact AO.nil | apply AO.cons | (apply AO.app; assumption)))) <;> done)) | (apply Kn.apart; assumption; ((focus (repeat (first | exact Apart.nil | apply Apart.own | (apply Apart.given; assumption) | (apply Apart.app; assumption)))) <;> done)) | (refine Kn.at ?_; ((focus (repeat (first | assumption | exact At.hd | refine At.tl ?_ | (refine At.left ?_; assumption) | refine At.right ?_))) <;> done))); rfl))) : ResV P n D w0 F L r v := h
attribute [local irreducible] WL WC WQ St Exit.then Exit.inBlock Exit.noGoto bodyPost roundPost beginK YR RG BM Calls B
/-! ## costs, texts, swaps -/
def costC (c : Edit.Cs) : List Value := [.int .i64 c.ins, .int .i64 c.del, .int .i64 c.chg, .int .i64 c.swp]
def costV (c : Edit.Cs) : Value := .agg (costC c).toArray
def nums (c : Edit.Cs) : List Int := [c.ins, c.del, c.chg, c.swp]
theorem ok_nums {c : Edit.Cs} (h : ∀ x ∈ nums c, 1 ≤ x ∧ x ≤ 1000) : c.ok := ⟨h _ (by simp [nums]), h _ (by simp [nums]), h _ (by simp [nums]), h _ (by simp [nums])⟩
theorem nums_ok {c : Edit.Cs} (h : c.ok) : ∀ x ∈ nums c, 1 ≤ x ∧ x ≤ 1000 := by
  obtain ⟨h1, h2, h3, h4⟩ := h
  intro x hx
  simp only [nums, List.mem_cons, List.not_mem_nil, or_false] at hx
  rcases hx with rfl | rfl | rfl | rfl <;> assumption
theorem right_calls (c : Edit.Cs) (w : World) : Calls Try.prog 13 #[costV c] w fun e w' => e = .returned (.bool (B c.ok)) ∧ Below w.heap.size w w' := by
  refine f_enter1 Try.func13 rfl Try.ntmps13 rfl (Rep.start w) ?_
  repeat' (first | ((with_reducible first | apply o_move | apply o_assign | apply o_faddr0); exact rfl; exact rfl) | ((with_reducible apply gdo_load); first | refine wo_load (h := ?_) | refine wo_loadAll (h := ?_) | refine wo_loadC (h := ?_) | refine wo_ldV (h := ?_) | refine wo_ldF (h := ?_)) | ((with_reducible apply o_box); exact rfl; exact rfl; exact rfl; intro _) | ((with_reducible apply gdo_build); first | refine wo_build (h := ?_) | refine wo_buildA (h := ?_)) | ((with_reducible first | apply c_seq | apply c_block | apply c_region | apply c_nil | apply c_ret | apply c_exit | apply c_unroll | apply c_skip)) | ((with_reducible first | apply e_then | apply e_then_ret | apply e_then_exit | apply e_in | apply e_in_ret | apply e_in_same)))
  apply c_loop (σ := Nat) (Fs := fun i => [(14, .int .i64 i), (13, .agg (costC c).toArray), (2, .bool false)]) (Ls := fun i => []) (I := fun i => i ≤ 4 ∧ ∀ j, j < i → ∀ x, (nums c)[j]? = some x → 1 ≤ x ∧ x ≤ 1000) (μ := fun i => 4 - i) (s0 := 0)
  · exact ⟨by omega, fun j hj => by omega⟩
  · (repeat (first | exact FSub.nil | refine FSub.cons rfl ?_))
  · ((try dsimp only); repeat (first | exact HSub.nil rfl | (apply HSub.take; (repeat (first | exact Rem.hd | apply Rem.tl | apply Rem.right))) | exact HSub.same | apply HSub.drop | (apply HSub.takeL; (focus ((repeat (first | exact RemL.hd | exact RemL.all | exact RemL.nil | apply RemL.tl | apply RemL.right))))) | (apply HSub.dropL; assumption) | (apply HSub.takeA; (focus ((repeat (first | exact RemL.hd | exact RemL.all | exact RemL.nil | apply RemL.tl | apply RemL.right)))); ((focus (repeat (first | exact AO.nil | apply AO.cons | (apply AO.app; assumption)))) <;> done)) | (apply HSub.nilA; ((focus (repeat (first | exact AO.nil | apply AO.cons | (apply AO.app; assumption)))) <;> done))))
  intro i ⟨hi, hall⟩
  by_cases hlt : i < 4
  · obtain ⟨x, hx⟩ : ∃ x, (nums c)[i]? = some x := ⟨_, List.getElem?_eq_getElem (by simpa [nums] using hlt)⟩
    have hcs : ((costC c).toArray)[(i : Int).toNat]? = some (.int .i64 x) := by
      have : i = 0 ∨ i = 1 ∨ i = 2 ∨ i = 3 := by omega
      rcases this with rfl | rfl | rfl | rfl <;> (cases hx; rfl)
    have hbad : ¬ (1 ≤ x ∧ x ≤ 1000) → ¬ c.ok := fun h h' => h (nums_ok h' x (List.mem_of_getElem? hx))
    repeat' (first | (refine o_index_one rfl rfl rfl (by omega) hcs ?_) | ((with_reducible first | apply o_move | apply o_assign | apply o_faddr0); exact rfl; exact rfl) | ((with_reducible first | apply o_lss | apply o_gtr); exact rfl; exact rfl; exact rfl) | ((with_reducible apply o_add); exact rfl; exact rfl; exact rfl; (constructor <;> omega)) | ((with_reducible apply o_pick_t); exact rfl; exact tT_; exact rfl; exact rfl) | ((with_reducible apply o_pick_f); exact rfl; exact fF_; exact rfl; exact rfl) | ((with_reducible first | apply g_run | apply g_skip_none); exact rfl; exact gG_) | ((with_reducible apply g_skip); exact rfl; exact gG_; exact rfl) | ((with_reducible first | apply c_seq | apply c_block | apply c_region | apply c_nil | apply c_ret | apply c_exit | apply c_unroll | apply c_skip)) | ((with_reducible apply c_cond_t); exact rfl; exact tT_) | ((with_reducible first | apply e_then | apply e_then_ret | apply e_then_exit | apply e_in | apply e_in_ret | apply e_in_same)) | ((with_reducible apply c_cond_d); exact rfl; intro hcond; rotate_left; intro hcond; rotate_left) | ((with_reducible apply g_split_d); exact rfl; intro hcond; rotate_left; intro hcond; rotate_left))
    · apply r_body; apply res1 Try.results13; exact rV_; intro w' hw
      exact ⟨by rw [B_false (hbad (by omega))], hw.below (by simp)⟩
    · apply r_body; apply res1 Try.results13; exact rV_; intro w' hw
      exact ⟨by rw [B_false (hbad (by omega))], hw.below (by simp)⟩
    · refine l_again (i + 1) ⟨by omega, fun j hj y hy => ?_⟩ (by omega) ?_ ?_
      · by_cases e : j = i
        · subst e; rw [hx] at hy; cases hy; exact ⟨by omega, by omega⟩
        · exact hall j (by omega) y hy
      · (repeat (first | exact FSub.nil | refine FSub.cons rfl ?_))
      · ((try dsimp only); repeat (first | exact HSub.nil rfl | (apply HSub.take; (repeat (first | exact Rem.hd | apply Rem.tl | apply Rem.right))) | exact HSub.same | apply HSub.drop | (apply HSub.takeL; (focus ((repeat (first | exact RemL.hd | exact RemL.all | exact RemL.nil | apply RemL.tl | apply RemL.right))))) | (apply HSub.dropL; assumption) | (apply HSub.takeA; (focus ((repeat (first | exact RemL.hd | exact RemL.all | exact RemL.nil | apply RemL.tl | apply RemL.right)))); ((focus (repeat (first | exact AO.nil | apply AO.cons | (apply AO.app; assumption)))) <;> done)) | (apply HSub.nilA; ((focus (repeat (first | exact AO.nil | apply AO.cons | (apply AO.app; assumption)))) <;> done))))
  · repeat' (first | ((with_reducible first | apply o_move | apply o_assign | apply o_faddr0); exact rfl; exact rfl) | ((with_reducible first | apply o_lss | apply o_gtr); exact rfl; exact rfl; exact rfl) | ((with_reducible first | apply c_seq | apply c_block | apply c_region | apply c_nil | apply c_ret | apply c_exit | apply c_unroll | apply c_skip)) | ((with_reducible apply c_cond_f); exact rfl; exact fF_) | ((with_reducible first | apply e_then | apply e_then_ret | apply e_then_exit | apply e_in | apply e_in_ret | apply e_in_same)))
    apply r_body; apply res1 Try.results13; exact rV_; intro w' hw
    refine ⟨?_, hw.below (by simp)⟩
    have hA : ∀ x ∈ nums c, 1 ≤ x ∧ x ≤ 1000 := fun x hx => by
      obtain ⟨j, hj, rfl⟩ := List.getElem_of_mem hx
      exact hall j (by simp [nums] at hj; omega) _ (List.getElem?_eq_getElem hj)
    rw [B_true (ok_nums hA)]
open Classical in
/-- The error of two texts and costs. -/
noncomputable def chk (c : Edit.Cs) (a b : Edit.T) : Int := if c.ok then if 60 < a.length ∨ 60 < b.length then 3 else 0 else 2
theorem chk_ok {c : Edit.Cs} {a b : Edit.T} (hc : c.ok) (ha : a.length ≤ 60) (hb : b.length ≤ 60) : chk c a b = 0 := by
  rw [chk, if_pos hc, if_neg (by omega)]
theorem chk_bad {c : Edit.Cs} {a b : Edit.T} (h : ¬ (c.ok ∧ a.length ≤ 60 ∧ b.length ≤ 60)) : chk c a b = 2 ∨ chk c a b = 3 := by
  rw [chk]
  split
  · rename_i hc
    rw [if_pos (by
      by_cases h1 : 60 < a.length
      · exact .inl h1
      · by_cases h2 : 60 < b.length
        · exact .inr h2
        · exact absurd ⟨hc, by omega, by omega⟩ h)]
    exact .inr rfl
  · exact .inl rfl
theorem checked_calls (c : Edit.Cs) (a b : Edit.T) (w : World) : Calls Try.prog 31 #[str a, str b, costV c] w fun e w' => e = .returned (.int .i64 (chk c a b)) ∧ Below w.heap.size w w' := by
  refine f_enter3 Try.func31 rfl Try.ntmps31 rfl (Rep.start w) ?_
  repeat' (first | ((first | ((with_reducible apply o_call_pure (f := 13)); exact rfl) | ((with_reducible apply q_call_pure (f := 13)); exact rfl; kernel_rfl; exact rfl; (focus (repeat (first | (apply SubJ.keep; (decide +kernel)) | apply SubJ.drop | exact SubJ.nil))))); (repeat (first | exact Evs.nil | apply Evs.cons rfl)); exact (fun w _ => right_calls c w)) | ((with_reducible first | apply o_move | apply o_assign | apply o_not_d); exact rfl; exact rfl) | ((with_reducible apply gdo_load); first | refine wo_load (h := ?_) | refine wo_loadAll (h := ?_) | refine wo_loadC (h := ?_) | refine wo_ldV (h := ?_) | refine wo_ldF (h := ?_)) | ((with_reducible apply o_gtr); exact rfl; exact rfl; exact rfl) | ((with_reducible apply o_not_B); exact rfl; exact rfl) | ((with_reducible apply o_pick_t); exact rfl; exact tT_; exact rfl; exact rfl) | ((with_reducible apply o_pick_f); exact rfl; exact fF_; exact rfl; exact rfl) | ((with_reducible apply o_box); exact rfl; exact rfl; exact rfl; intro _) | ((with_reducible apply o_len_t); infer_instance; exact rfl; exact rfl) | ((with_reducible first | apply g_run | apply g_skip_none); exact rfl; exact gG_) | ((with_reducible apply g_skip); exact rfl; exact gG_; exact rfl) | ((with_reducible first | apply c_seq | apply c_block | apply c_region | apply c_nil | apply c_ret | apply c_exit | apply c_unroll | apply c_skip)) | ((with_reducible apply c_cond_t); exact rfl; exact tT_) | ((with_reducible first | apply e_then | apply e_then_ret | apply e_then_exit | apply e_in | apply e_in_ret | apply e_in_same)) | ((with_reducible apply c_cond_d); exact rfl; intro hcond; rotate_left; intro hcond; rotate_left) | ((with_reducible apply c_cond_B); exact rfl; intro hcond; rotate_left; intro hcond; rotate_left) | ((with_reducible apply g_split_d); exact rfl; intro hcond; rotate_left; intro hcond; rotate_left))
  all_goals
    apply r_body; apply res1 Try.results31; exact rV_; intro w' hw
    refine ⟨?_, hw.below (by simp)⟩
    try simp only [Classical.not_not] at *
    first
      | rw [chk, if_neg ‹_›]
      | rw [chk, if_pos ‹_›, if_pos (by omega)]
      | rw [chk, if_pos ‹_›, if_neg (by omega)]
theorem nat_ne {x y : UInt8} (h : ¬ x = y) : ¬ (x.toNat : Int) = y.toNat := fun e => h (Edit.toNat_inj.1 e)
theorem nat_eq {x y : UInt8} (h : x = y) : (x.toNat : Int) = y.toNat := by rw [h]
theorem swp2_short {a b : Edit.T} (h : a.length ≤ 1 ∨ b.length ≤ 1) : Edit.swp2 a b = false := by
  match a, b with
  | _ :: _ :: _, _ :: _ :: _ => simp at h
  | [], _ => rfl
  | [_], _ => rfl
  | _ :: _ :: _, [] => rfl
  | _ :: _ :: _, [_] => rfl
theorem swapped_calls (a b : Edit.T) (w : World) : Calls Try.prog 56 #[str a, str b] w fun e w' => e = .returned (.bool (Edit.swp2 a b)) ∧ Below w.heap.size w w' := by
  by_cases hs : a.length ≤ 1 ∨ b.length ≤ 1
  · rw [swp2_short hs]
    by_cases h1 : a.length ≤ 1
    · refine f_enter2 Try.func56 rfl Try.ntmps56 rfl (Rep.start w) ?_
      repeat' (first | ((with_reducible first | apply o_move | apply o_assign); exact rfl; exact rfl) | ((with_reducible first | apply c_seq | apply c_block | apply c_region | apply c_nil | apply c_ret | apply c_exit | apply c_unroll | apply c_skip)) | ((with_reducible first | apply e_then | apply e_then_ret | apply e_then_exit | apply e_in | apply e_in_ret | apply e_in_same)) | ((with_reducible apply c_regionD0 (id := 1) []); kernel_rfl; kernel_rfl) | ((with_reducible apply q_nil); try simp only [ents, List.cons_append, List.nil_append]) | ((with_reducible first | apply q_move | apply q_assign); exact rfl; exact rfl) | ((with_reducible first | apply q_gtr | apply q_eql | apply q_neq); exact rfl; exact rfl; exact rfl) | ((with_reducible apply q_pick_f); exact rfl; exact fF_; exact rfl; exact rfl) | ((with_reducible apply gdq_call_len); first | refine wq_len_t (h := ?_) | refine wq_len (h := ?_) | refine wq_len_str (h := ?_)) | ((with_reducible apply h_skip); exact rfl; exact gG_; exact rfl))
      apply r_body; apply res1 Try.results56; exact rV_; intro w' hw
      exact ⟨rfl, hw.below (by simp)⟩
    · refine f_enter2 Try.func56 rfl Try.ntmps56 rfl (Rep.start w) ?_
      repeat' (first | ((with_reducible first | apply o_move | apply o_assign); exact rfl; exact rfl) | ((with_reducible first | apply c_seq | apply c_block | apply c_region | apply c_nil | apply c_ret | apply c_exit | apply c_unroll | apply c_skip)) | ((with_reducible first | apply e_then | apply e_then_ret | apply e_then_exit | apply e_in | apply e_in_ret | apply e_in_same)) | ((with_reducible apply c_regionD0 (id := 1) []); kernel_rfl; kernel_rfl) | ((with_reducible apply q_nil); try simp only [ents, List.cons_append, List.nil_append]) | ((with_reducible first | apply q_move | apply q_assign); exact rfl; exact rfl) | ((with_reducible first | apply q_gtr | apply q_eql | apply q_neq); exact rfl; exact rfl; exact rfl) | ((with_reducible apply q_pick_t); exact rfl; exact tT_; exact rfl; exact rfl) | ((with_reducible apply q_pick_f); exact rfl; exact fF_; exact rfl; exact rfl) | ((with_reducible apply gdq_call_len); first | refine wq_len_t (h := ?_) | refine wq_len (h := ?_) | refine wq_len_str (h := ?_)) | ((with_reducible first | apply h_run | apply h_skip_none); exact rfl; exact gG_) | ((with_reducible apply h_skip); exact rfl; exact gG_; exact rfl))
      apply r_body; apply res1 Try.results56; exact rV_; intro w' hw
      exact ⟨rfl, hw.below (by simp)⟩
  match a, b, hs with
  | [], _, hs => simp at hs
  | [_], _, hs => simp at hs
  | _ :: _ :: _, [], hs => simp at hs
  | _ :: _ :: _, [_], hs => simp at hs
  | x :: x' :: a, y :: y' :: b, _ =>
    have l1 : (x :: x' :: a).length = a.length + 2 := rfl
    have l2 : (y :: y' :: b).length = b.length + 2 := rfl
    have hv : Edit.swp2 (x :: x' :: a) (y :: y' :: b) = decide (x = y' ∧ x' = y ∧ x ≠ x') := rfl
    rw [hv]
    clear hv
    by_cases h1 : x = y'
    · have h1' := nat_eq h1
      by_cases h2 : x' = y
      · have h2' := nat_eq h2
        by_cases h3 : x = x'
        · have h3' := nat_eq h3
          refine f_enter2 Try.func56 rfl Try.ntmps56 rfl (Rep.start w) ?_
          repeat' (first | ((with_reducible first | apply o_move | apply o_assign); exact rfl; exact rfl) | ((with_reducible first | apply c_seq | apply c_block | apply c_region | apply c_nil | apply c_ret | apply c_exit | apply c_unroll | apply c_skip)) | ((with_reducible first | apply e_then | apply e_then_ret | apply e_then_exit | apply e_in | apply e_in_ret | apply e_in_same)) | ((with_reducible apply c_regionD0 (id := 1) []); kernel_rfl; kernel_rfl) | ((with_reducible apply q_nil); try simp only [ents, List.cons_append, List.nil_append]) | ((with_reducible first | apply q_move | apply q_assign); exact rfl; exact rfl) | ((with_reducible first | apply q_gtr | apply q_eql | apply q_neq); exact rfl; exact rfl; exact rfl) | ((with_reducible apply q_pick_t); exact rfl; exact tT_; exact rfl; exact rfl) | ((with_reducible apply gdq_call_len); first | refine wq_len_t (h := ?_) | refine wq_len (h := ?_) | refine wq_len_str (h := ?_)) | ((with_reducible apply q_index_t); infer_instance; exact rfl; exact rfl; (first | exact Int.cast_ofNat_Int.symm | exact rfl | omega); (first | exact rfl | assumption); exact rfl) | ((with_reducible first | apply h_run | apply h_skip_none); exact rfl; exact gG_))
          apply r_body; apply res1 Try.results56; exact rV_; intro w' hw
          exact ⟨by simp [h3']; exact fun _ _ => h3, hw.below (by simp)⟩
        · have h3' := nat_ne h3
          refine f_enter2 Try.func56 rfl Try.ntmps56 rfl (Rep.start w) ?_
          repeat' (first | ((with_reducible first | apply o_move | apply o_assign); exact rfl; exact rfl) | ((with_reducible first | apply c_seq | apply c_block | apply c_region | apply c_nil | apply c_ret | apply c_exit | apply c_unroll | apply c_skip)) | ((with_reducible first | apply e_then | apply e_then_ret | apply e_then_exit | apply e_in | apply e_in_ret | apply e_in_same)) | ((with_reducible apply c_regionD0 (id := 1) []); kernel_rfl; kernel_rfl) | ((with_reducible apply q_nil); try simp only [ents, List.cons_append, List.nil_append]) | ((with_reducible first | apply q_move | apply q_assign); exact rfl; exact rfl) | ((with_reducible first | apply q_gtr | apply q_eql | apply q_neq); exact rfl; exact rfl; exact rfl) | ((with_reducible apply q_pick_t); exact rfl; exact tT_; exact rfl; exact rfl) | ((with_reducible apply gdq_call_len); first | refine wq_len_t (h := ?_) | refine wq_len (h := ?_) | refine wq_len_str (h := ?_)) | ((with_reducible apply q_index_t); infer_instance; exact rfl; exact rfl; (first | exact Int.cast_ofNat_Int.symm | exact rfl | omega); (first | exact rfl | assumption); exact rfl) | ((with_reducible first | apply h_run | apply h_skip_none); exact rfl; exact gG_))
          apply r_body; apply res1 Try.results56; exact rV_; intro w' hw
          exact ⟨by simp [h3']; exact ⟨h1, h2, h3⟩, hw.below (by simp)⟩
      · have h2' := nat_ne h2
        refine f_enter2 Try.func56 rfl Try.ntmps56 rfl (Rep.start w) ?_
        repeat' (first | ((with_reducible first | apply o_move | apply o_assign); exact rfl; exact rfl) | ((with_reducible first | apply c_seq | apply c_block | apply c_region | apply c_nil | apply c_ret | apply c_exit | apply c_unroll | apply c_skip)) | ((with_reducible first | apply e_then | apply e_then_ret | apply e_then_exit | apply e_in | apply e_in_ret | apply e_in_same)) | ((with_reducible apply c_regionD0 (id := 1) []); kernel_rfl; kernel_rfl) | ((with_reducible apply q_nil); try simp only [ents, List.cons_append, List.nil_append]) | ((with_reducible first | apply q_move | apply q_assign); exact rfl; exact rfl) | ((with_reducible first | apply q_gtr | apply q_eql | apply q_neq); exact rfl; exact rfl; exact rfl) | ((with_reducible apply q_pick_t); exact rfl; exact tT_; exact rfl; exact rfl) | ((with_reducible apply q_pick_f); exact rfl; exact fF_; exact rfl; exact rfl) | ((with_reducible apply gdq_call_len); first | refine wq_len_t (h := ?_) | refine wq_len (h := ?_) | refine wq_len_str (h := ?_)) | ((with_reducible apply q_index_t); infer_instance; exact rfl; exact rfl; (first | exact Int.cast_ofNat_Int.symm | exact rfl | omega); (first | exact rfl | assumption); exact rfl) | ((with_reducible first | apply h_run | apply h_skip_none); exact rfl; exact gG_) | ((with_reducible apply h_skip); exact rfl; exact gG_; exact rfl))
        apply r_body; apply res1 Try.results56; exact rV_; intro w' hw
        exact ⟨by rw [decide_eq_false (fun h => h2 h.2.1)], hw.below (by simp)⟩
    · have h1' := nat_ne h1
      refine f_enter2 Try.func56 rfl Try.ntmps56 rfl (Rep.start w) ?_
      repeat' (first | ((with_reducible first | apply o_move | apply o_assign); exact rfl; exact rfl) | ((with_reducible first | apply c_seq | apply c_block | apply c_region | apply c_nil | apply c_ret | apply c_exit | apply c_unroll | apply c_skip)) | ((with_reducible first | apply e_then | apply e_then_ret | apply e_then_exit | apply e_in | apply e_in_ret | apply e_in_same)) | ((with_reducible apply c_regionD0 (id := 1) []); kernel_rfl; kernel_rfl) | ((with_reducible apply q_nil); try simp only [ents, List.cons_append, List.nil_append]) | ((with_reducible first | apply q_move | apply q_assign); exact rfl; exact rfl) | ((with_reducible first | apply q_gtr | apply q_eql | apply q_neq); exact rfl; exact rfl; exact rfl) | ((with_reducible apply q_pick_t); exact rfl; exact tT_; exact rfl; exact rfl) | ((with_reducible apply q_pick_f); exact rfl; exact fF_; exact rfl; exact rfl) | ((with_reducible apply gdq_call_len); first | refine wq_len_t (h := ?_) | refine wq_len (h := ?_) | refine wq_len_str (h := ?_)) | ((with_reducible apply q_index_t); infer_instance; exact rfl; exact rfl; (first | exact Int.cast_ofNat_Int.symm | exact rfl | omega); (first | exact rfl | assumption); exact rfl) | ((with_reducible first | apply h_run | apply h_skip_none); exact rfl; exact gG_) | ((with_reducible apply h_skip); exact rfl; exact gG_; exact rfl))
      apply r_body; apply res1 Try.results56; exact rV_; intro w' hw
      exact ⟨by rw [decide_eq_false (fun h => h1 h.1)], hw.below (by simp)⟩
end Go.Proofs.Ytgkejkfodigdiaa
