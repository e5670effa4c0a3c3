/-
  A part of the proofs of this seat: what some of the program's functions compute, shown by walks through their code. Conditions: the hypotheses that each theorem names. (Its blocks of tactics were laid by a small program.)
-/
import Derived.Test.YtgkejkfodigdiaaE17
set_option linter.unusedSimpArgs false
set_option linter.unusedVariables false
namespace Go.Proofs.Ytgkejkfodigdiaa
open Go Go.Sx Go.RowKit
section
variable {r : Option Nat} {P : Program} {n : Nat} {D : List Deferred} {w0 : World} {F : List (Nat × Value)} {L L0 : List Ent} {Q : Exit → Act → World → Prop} {ops : Array Oper}
variable {d : Tmp} {ty : TypeId} {pos : String} {af : Array Edge} {rest : List Oper}
theorem ite_max (m l : Int) : (if m < l then l else m) = max m l := by split <;> omega
/-- The largest of four. -/
theorem o_max4 {x y z u : Operand} {k : IntKind} {m l p q : Int} {ats : Array TypeId} (hx : ev F x = some (.int k m)) (hy : ev F y = some (.int k l)) (hz : ev F z = some (.int k p)) (hu : ev F u = some (.int k q)) (hd : Nat.ble (d + 1) n = true)
    (h : St n D w0 ((d, .int k (max (max (max m l) p) q)) :: F) L (WL r P ops Q rest)) : St n D w0 F L (WL r P ops Q (⟨some d, .call ⟨.builtin .max, #[x, y, z, u], ats⟩, ty, pos, af, none⟩ :: rest)) :=
  o_val rfl hd (fun a w ha _ => by simp [execOp, resolve, invoke, builtin, Builtin.max_, Builtin.max2, ha.eval hx, ha.eval hy, ha.eval hz, ha.eval hu, ite_max]) h
/-- Two texts put together, under a name that the context has for it. -/
theorem o_catE {x y : Operand} {l m p : List UInt8} {t u : TypeId} (hU : TU P t .string) (hx : ev F x = some (str l)) (hy : ev F y = some (str m)) (he : l ++ m = p) (hb : p.length ≤ 9223372036854775807) (hd : Nat.ble (d + 1) n = true)
    (h : St n D w0 ((d, str p) :: F) L (WL r P ops Q rest)) : St n D w0 F L (WL r P ops Q (⟨some d, .binOp .add t x y u, ty, pos, af, none⟩ :: rest)) := by
  subst he
  exact o_cat_t hU hx hy (by simpa using hb) hd h
end
attribute [local irreducible] WL WC WQ WR St Exit.then Exit.inBlock Exit.noGoto bodyPost roundPost beginK YR RG BM Calls B
/-! ## parts put together -/
theorem mul_len {n m : Int} {k : Nat} (hk : k ≤ 60) (h : 1 ≤ m ∧ m ≤ 1000) (e : (k : Int) * m = n) : 0 ≤ n ∧ n ≤ 60000 := by
  subst e
  refine ⟨Int.mul_nonneg (by omega) (by omega), ?_⟩
  have h1 : (k : Int) * m ≤ 60 * m := Int.mul_le_mul_of_nonneg_right (by omega) (by omega)
  omega
set_option maxHeartbeats 4000000 in
theorem law5_calls {c : Edit.Cs} {a b x y : Edit.T} (w : World) (ha : a.length ≤ 9223372036854775807) (hb : b.length ≤ 9223372036854775807) (hx : x.length ≤ 9223372036854775807) (hy : y.length ≤ 9223372036854775807) : Calls Try.prog 5 #[str a, str b, str x, str y, costV c] w fun e w' => e = .returned (.bool true) ∧ Below w.heap.size w w' := by
  by_cases h : c.ok ∧ a.length ≤ 30 ∧ b.length ≤ 30 ∧ x.length ≤ 30 ∧ y.length ≤ 30
  · obtain ⟨hc, h1, h2, h3, h4⟩ := h
    have hr : ∀ w, Calls Try.prog 13 #[costV c] w fun e w' => e = .returned (.bool true) ∧ Below w.heap.size w w' := fun w => by
      have := right_calls c w; rwa [B_true hc] at this
    have hj := Edit.joined c a b x y
    have hc' := hc
    unfold Edit.Cs.ok at hc'
    obtain ⟨p, hp⟩ : ∃ p, a ++ x = p := ⟨_, rfl⟩
    obtain ⟨q, hq⟩ : ∃ q, b ++ y = q := ⟨_, rfl⟩
    have lp : p.length ≤ 60 := by rw [← hp, List.length_append]; omega
    have lq : q.length ≤ 60 := by rw [← hq, List.length_append]; omega
    rw [hp, hq] at hj
    have hB := Edit.D_bound hc p q
    have hz := @Edit.D_zero c hc p q
    have m1 := mul_len (n := (p.length : Int) * c.del) lp hc'.2.1 rfl
    have m2 := mul_len (n := (q.length : Int) * c.ins) lq hc'.1 rfl
    have b1 := Edit.D_small hc (a := a) (b := b) (by omega) (by omega)
    have b2 := Edit.D_small hc (a := x) (b := y) (by omega) (by omega)
    generalize hn : Edit.D c p q = n at hj hB hz
    generalize hn1 : Edit.D c a b = n1 at hj b1
    generalize hn2 : Edit.D c x y = n2 at hj b2
    have d0 := fun w => dist_at hc lp lq hn w
    have d1 := fun w => dist_at hc (by omega) (by omega) hn1 w
    have d2 := fun w => dist_at hc (by omega) (by omega) hn2 w
    refine f_enter5 Try.func5 rfl Try.ntmps5 rfl (Rep.start w) ?_
    repeat' (first | ((with_reducible apply o_max4); exact rfl; exact rfl; exact rfl; exact rfl; exact rfl) | ((with_reducible apply o_catE); infer_instance; exact rfl; exact rfl; exact hp; omega; exact rfl) | ((with_reducible apply o_catE); infer_instance; exact rfl; exact rfl; exact hq; omega; exact rfl) | ((first | ((with_reducible apply o_call_pure (f := 11)); exact rfl) | ((with_reducible apply q_call_pure (f := 11)); exact rfl; kernel_rfl; exact rfl; (focus (repeat (first | (apply SubJ.keep; (decide +kernel)) | apply SubJ.drop | exact SubJ.nil))))); (repeat (first | exact Evs.nil | apply Evs.cons rfl)); exact (fun w _ => awake_calls w)) | ((first | ((with_reducible apply o_call_pure (f := 13)); exact rfl) | ((with_reducible apply q_call_pure (f := 13)); exact rfl; kernel_rfl; exact rfl; (focus (repeat (first | (apply SubJ.keep; (decide +kernel)) | apply SubJ.drop | exact SubJ.nil))))); (repeat (first | exact Evs.nil | apply Evs.cons rfl)); exact (fun w _ => hr w)) | ((first | ((with_reducible apply o_call_pure (f := 14)); exact rfl) | ((with_reducible apply q_call_pure (f := 14)); exact rfl; kernel_rfl; exact rfl; (focus (repeat (first | (apply SubJ.keep; (decide +kernel)) | apply SubJ.drop | exact SubJ.nil))))); (repeat (first | exact Evs.nil | apply Evs.cons rfl)); exact (fun w _ => d0 w)) | ((first | ((with_reducible apply o_call_pure (f := 14)); exact rfl) | ((with_reducible apply q_call_pure (f := 14)); exact rfl; kernel_rfl; exact rfl; (focus (repeat (first | (apply SubJ.keep; (decide +kernel)) | apply SubJ.drop | exact SubJ.nil))))); (repeat (first | exact Evs.nil | apply Evs.cons rfl)); exact (fun w _ => d1 w)) | ((first | ((with_reducible apply o_call_pure (f := 14)); exact rfl) | ((with_reducible apply q_call_pure (f := 14)); exact rfl; kernel_rfl; exact rfl; (focus (repeat (first | (apply SubJ.keep; (decide +kernel)) | apply SubJ.drop | exact SubJ.nil))))); (repeat (first | exact Evs.nil | apply Evs.cons rfl)); exact (fun w _ => d2 w)) | ((with_reducible first | apply o_move | apply o_assign | apply o_faddr0 | apply o_not_d); exact rfl; exact rfl) | ((with_reducible apply gdo_load); first | refine wo_load (h := ?_) | refine wo_loadAll (h := ?_) | refine wo_loadC (h := ?_) | refine wo_ldV (h := ?_) | refine wo_ldF (h := ?_)) | ((with_reducible first | apply o_leq | apply o_gtr | apply o_eql | apply o_extract | apply o_max2); exact rfl; exact rfl; exact rfl) | ((with_reducible apply o_not); exact rfl; exact rfl) | ((with_reducible first | apply o_add | apply o_mul); exact rfl; exact rfl; exact rfl; (constructor <;> omega)) | ((with_reducible apply o_pick_t); exact rfl; exact tT_; exact rfl; exact rfl) | ((with_reducible apply o_pick_f); exact rfl; exact fF_; exact rfl; exact rfl) | ((with_reducible apply o_box); exact rfl; exact rfl; exact rfl; intro _) | ((with_reducible apply o_len_t); infer_instance; exact rfl; exact rfl) | ((with_reducible apply o_eql_t); infer_instance; exact rfl; exact rfl; exact rfl) | ((with_reducible first | apply g_run | apply g_skip_none); exact rfl; exact gG_) | ((with_reducible apply g_skip); exact rfl; exact gG_; exact rfl) | ((with_reducible first | apply c_seq | apply c_block | apply c_region | apply c_nil | apply c_ret | apply c_exit | apply c_unroll | apply c_skip)) | ((with_reducible apply c_cond_f); exact rfl; exact fF_) | ((with_reducible first | apply e_then | apply e_then_ret | apply e_then_exit | apply e_in | apply e_in_ret | apply e_in_same)) | ((with_reducible apply g_split_d); exact rfl; intro hcond; rotate_left; intro hcond; rotate_left))
    all_goals
      apply r_body; apply res1 Try.results5; exact rV_; intro w' hw
      refine ⟨?_, hw.below (by simp)⟩
      first
        | rfl
        | (simp only [decide_eq_true_eq, decide_eq_false_iff_not, Int.not_lt] at *; have := hz (by omega); subst this; simp)
        | (simp; done)
  · obtain ⟨bc, hbc⟩ : ∃ b : Bool, B c.ok = b := ⟨_, rfl⟩
    have hr : ∀ w, Calls Try.prog 13 #[costV c] w fun e w' => e = .returned (.bool bc) ∧ Below w.heap.size w w' := fun w => by
      rw [← hbc]; exact right_calls c w
    have hcases : (30 < max (max (max (a.length : Int) b.length) x.length) y.length) ∨ bc = false := by
      by_cases hc : c.ok
      · have : ¬ (a.length ≤ 30 ∧ b.length ≤ 30 ∧ x.length ≤ 30 ∧ y.length ≤ 30) := fun g => h ⟨hc, g⟩
        omega
      · rw [B_false hc] at hbc
        exact .inr hbc.symm
    rcases hcases with h1 | rfl
    all_goals
      refine f_enter5 Try.func5 rfl Try.ntmps5 rfl (Rep.start w) ?_
      repeat' (first | ((with_reducible apply o_max4); exact rfl; exact rfl; exact rfl; exact rfl; exact rfl) | ((first | ((with_reducible apply o_call_pure (f := 11)); exact rfl) | ((with_reducible apply q_call_pure (f := 11)); exact rfl; kernel_rfl; exact rfl; (focus (repeat (first | (apply SubJ.keep; (decide +kernel)) | apply SubJ.drop | exact SubJ.nil))))); (repeat (first | exact Evs.nil | apply Evs.cons rfl)); exact (fun w _ => awake_calls w)) | ((first | ((with_reducible apply o_call_pure (f := 13)); exact rfl) | ((with_reducible apply q_call_pure (f := 13)); exact rfl; kernel_rfl; exact rfl; (focus (repeat (first | (apply SubJ.keep; (decide +kernel)) | apply SubJ.drop | exact SubJ.nil))))); (repeat (first | exact Evs.nil | apply Evs.cons rfl)); exact (fun w _ => hr w)) | ((with_reducible first | apply o_move | apply o_assign | apply o_faddr0 | apply o_not_d); exact rfl; exact rfl) | ((with_reducible apply gdo_load); first | refine wo_load (h := ?_) | refine wo_loadAll (h := ?_) | refine wo_loadC (h := ?_) | refine wo_ldV (h := ?_) | refine wo_ldF (h := ?_)) | ((with_reducible first | apply o_leq | apply o_gtr | apply o_eql | apply o_extract | apply o_max2); exact rfl; exact rfl; exact rfl) | ((with_reducible apply o_not); exact rfl; exact rfl) | ((with_reducible apply o_pick_t); exact rfl; exact tT_; exact rfl; exact rfl) | ((with_reducible apply o_pick_f); exact rfl; exact fF_; exact rfl; exact rfl) | ((with_reducible apply o_box); exact rfl; exact rfl; exact rfl; intro _) | ((with_reducible apply o_len_t); infer_instance; exact rfl; exact rfl) | ((with_reducible first | apply g_run | apply g_skip_none); exact rfl; exact gG_) | ((with_reducible apply g_skip); exact rfl; exact gG_; exact rfl) | ((with_reducible first | apply c_seq | apply c_block | apply c_region | apply c_nil | apply c_ret | apply c_exit | apply c_unroll | apply c_skip)) | ((with_reducible apply c_cond_t); exact rfl; exact tT_) | ((with_reducible apply c_cond_f); exact rfl; exact fF_) | ((with_reducible first | apply e_then | apply e_then_ret | apply e_then_exit | apply e_in | apply e_in_ret | apply e_in_same)) | ((with_reducible apply g_split_d); exact rfl; intro hcond; rotate_left; intro hcond; rotate_left))
      all_goals first
        | (exfalso; omega)
        | (apply r_body; apply res1 Try.results5; exact rV_; intro w' hw; exact ⟨rfl, hw.below (by simp)⟩)
end Go.Proofs.Ytgkejkfodigdiaa
