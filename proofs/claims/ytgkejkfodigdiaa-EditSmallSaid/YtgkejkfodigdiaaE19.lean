/-
  A part of the proofs of this seat: what some of the program's functions compute, shown by walks through their code. Conditions: the hypotheses that each theorem names. (Its blocks of tactics were laid by a small program.)
-/
import Derived.Test.YtgkejkfodigdiaaE18
set_option linter.unusedSimpArgs false
set_option linter.unusedVariables false
namespace Go.Proofs.Ytgkejkfodigdiaa
open Go Go.Sx Go.RowKit
section
variable {r : Option Nat} {P : Program} {n : Nat} {D : List Deferred} {w0 : World} {F : List (Nat × Value)} {L L0 : List Ent} {Q : Exit → Act → World → Prop} {ops : Array Oper}
variable {d : Tmp} {ty : TypeId} {pos : String} {af : Array Edge} {rest : List Oper}
/-- A callee that is a value and leaves all that lay as it lay. -/
theorem o_call_pureV {f : FuncId} {fn : Func} [TC P f fn] {x : Operand} {caps : Array Value} {xs : List Operand} {vs : List Value} {ats : Array TypeId} {v : Value} (hx : ev F x = some (.func (.func f) #[] caps)) (hd : Nat.ble (d + 1) n = true) (hxs : Evs F xs vs)
    (hc : ∀ w, Rep w0 w L → Calls P f (vs.toArray ++ caps) w fun e w' => e = .returned v ∧ Below w.heap.size w w')
    (h : St n D w0 ((d, v) :: F) L (WL r P ops Q rest)) : St n D w0 F L (WL r P ops Q (⟨some d, .call ⟨.value x, xs.toArray, ats⟩, ty, pos, af, none⟩ :: rest)) :=
  o_call (x := x) (caps := caps) (Φ := fun w u w' => u = v ∧ Below w.heap.size w w') hx hd hxs (fun w hw => by
    refine (hc w hw).mono ?_
    rintro e w' ⟨rfl, hB⟩
    exact ⟨v, rfl, rfl, hB⟩) (fun w u hw a w' hΦ ha => by obtain ⟨rfl, hB⟩ := hΦ; exact h a w' ha (hw.grow hB))
end
attribute [local irreducible] WL WC WQ WR St Exit.then Exit.inBlock Exit.noGoto bodyPost roundPost beginK YR RG BM Calls B
/-! ## Cost -/
theorem pr_bounds {c : Edit.Cs} (hc : c.ok) (k : Nat) : 0 ≤ Edit.pr c k ∧ Edit.pr c k ≤ 1000 := Edit.pr_ok hc k
theorem cost_calls {c : Edit.Cs} {lv : Value} {l : List Edit.Op} (w : World) (hl : SV w 2 opC lv l) (hu : ∀ o ∈ l, o.u8) : Calls Try.prog 22 #[lv, costV c] w fun e w' => e = .returned (costR c l) ∧ Below w.heap.size w w' := by
  obtain ⟨a0, ca, rfl, hca, hop⟩ := hl.open
  by_cases hc : c.ok
  · have hr : ∀ w, Calls Try.prog 13 #[costV c] w fun e w' => e = .returned (.bool true) ∧ Below w.heap.size w w' := fun w => by
      have := right_calls c w; rwa [B_true hc] at this
    unfold costR
    rw [if_pos hc]
    by_cases hlong : 120 < l.length
    · rw [if_pos hlong]
      refine f_enter2 Try.func22 rfl Try.ntmps22 rfl (Rep.start w) ?_
      repeat' (first | ((first | ((with_reducible apply o_call_pure (f := 13)); exact rfl) | ((with_reducible apply q_call_pure (f := 13)); exact rfl; kernel_rfl; exact rfl; (focus (repeat (first | (apply SubJ.keep; (decide +kernel)) | apply SubJ.drop | exact SubJ.nil))))); (repeat (first | exact Evs.nil | apply Evs.cons rfl)); exact (fun w _ => hr w)) | ((with_reducible first | apply o_move | apply o_assign | apply o_faddr0 | apply o_not_d); exact rfl; exact rfl) | ((with_reducible apply gdo_load); first | refine wo_load (h := ?_) | refine wo_loadAll (h := ?_) | refine wo_loadC (h := ?_) | refine wo_ldV (h := ?_) | refine wo_ldF (h := ?_)) | ((with_reducible first | apply o_lss | apply o_gtr | apply o_extract); exact rfl; exact rfl; exact rfl) | ((with_reducible apply o_not); exact rfl; exact rfl) | ((with_reducible apply o_box); exact rfl; exact rfl; exact rfl; intro _) | ((with_reducible apply o_len); infer_instance; exact rfl; exact rfl) | ((with_reducible first | apply c_seq | apply c_block | apply c_region | apply c_nil | apply c_ret | apply c_exit | apply c_unroll | apply c_skip)) | ((with_reducible apply c_cond_t); exact rfl; exact tT_) | ((with_reducible apply c_cond_f); exact rfl; exact fF_) | ((with_reducible first | apply e_then | apply e_then_ret | apply e_then_exit | apply e_in | apply e_in_ret | apply e_in_same)))
      apply r_body; apply res2 Try.results22; exact rV_; exact rV_; intro w' hw
      exact ⟨rfl, hw.below (by simp)⟩
    rw [if_neg hlong]
    refine f_enter2 Try.func22 rfl Try.ntmps22 rfl (Rep.start w) ?_
    repeat' (first | ((first | ((with_reducible apply o_call_pure (f := 13)); exact rfl) | ((with_reducible apply q_call_pure (f := 13)); exact rfl; kernel_rfl; exact rfl; (focus (repeat (first | (apply SubJ.keep; (decide +kernel)) | apply SubJ.drop | exact SubJ.nil))))); (repeat (first | exact Evs.nil | apply Evs.cons rfl)); exact (fun w _ => hr w)) | ((first | ((with_reducible apply o_call_new (f := 37)); exact rfl) | ((with_reducible apply q_call_new (f := 37)); exact rfl; exact rfl; (focus (repeat (first | (apply SubJ.keep; (decide +kernel)) | apply SubJ.drop | exact SubJ.nil))))); (repeat (first | exact Evs.nil | apply Evs.cons rfl)); exact (fun w _ => prices_calls c w); rintro v N ⟨bm, bc, rfl, rfl⟩ <;> (try simp only [List.cons_append, List.nil_append])) | ((with_reducible first | apply o_move | apply o_assign | apply o_faddr0 | apply o_not_d); exact rfl; exact rfl) | ((with_reducible apply gdo_load); first | refine wo_load (h := ?_) | refine wo_loadAll (h := ?_) | refine wo_loadC (h := ?_) | refine wo_ldV (h := ?_) | refine wo_ldF (h := ?_)) | ((with_reducible first | apply o_lss | apply o_gtr | apply o_extract); exact rfl; exact rfl; exact rfl) | ((with_reducible apply o_not); exact rfl; exact rfl) | ((with_reducible apply o_box); exact rfl; exact rfl; exact rfl; intro _) | ((with_reducible apply o_len); infer_instance; exact rfl; exact rfl) | ((with_reducible first | apply c_seq | apply c_block | apply c_region | apply c_nil | apply c_ret | apply c_exit | apply c_unroll | apply c_skip)) | ((with_reducible apply c_cond_f); exact rfl; exact fF_) | ((with_reducible first | apply e_then | apply e_then_ret | apply e_then_exit | apply e_in | apply e_in_ret | apply e_in_same)))
    apply c_loop (σ := Nat × Int)
      (Fs := fun t => [(22, .int .i64 t.1), (21, .int .i64 l.length), (20, .slice a0 l.length ca), (7, .int .i64 t.2), (6, .map (some bm))])
      (Ls := fun t => [⟨bm, MO (pmap bc), true⟩, ⟨bc, Ce (costC c) 23, true⟩])
      (I := fun t => t.1 ≤ l.length ∧ (0 ≤ t.2 ∧ t.2 ≤ 1000 * t.1) ∧ Edit.cost c l = (Edit.cost c (l.drop t.1)).map (t.2 + ·))
      (μ := fun t => l.length - t.1) (s0 := (0, 0))
    · refine ⟨Nat.zero_le _, ⟨Int.le_refl _, by simp⟩, ?_⟩
      simp only [List.drop_zero, Int.zero_add]
      cases Edit.cost c l <;> rfl
    · (repeat (first | exact FSub.nil | refine FSub.cons rfl ?_))
    · ((try dsimp only); repeat (first | exact HSub.nil rfl | (apply HSub.take; (repeat (first | exact Rem.hd | apply Rem.tl | apply Rem.right))) | exact HSub.same | apply HSub.drop | (apply HSub.takeL; (focus ((repeat (first | exact RemL.hd | exact RemL.all | exact RemL.nil | apply RemL.tl | apply RemL.right))))) | (apply HSub.takeA; (first | exact RemL.hd | exact RemL.all); ((focus (repeat (first | exact AO.nil | apply AO.cons | (apply AO.app; assumption)))) <;> done)) | (apply HSub.dropL; assumption) | (apply HSub.takeA; (focus ((repeat (first | exact RemL.hd | exact RemL.all | exact RemL.nil | apply RemL.tl | apply RemL.right)))); ((focus (repeat (first | exact AO.nil | apply AO.cons | (apply AO.app; assumption)))) <;> done)) | (apply HSub.nilA; ((focus (repeat (first | exact AO.nil | apply AO.cons | (apply AO.app; assumption)))) <;> done))))
    rintro ⟨i, s⟩ ⟨hi, hs, hap⟩
    simp only [] at hi hs hap ⊢
    by_cases hlt : i < l.length
    · obtain ⟨o, ho⟩ : ∃ o, l[i]? = some o := ⟨_, List.getElem?_eq_getElem hlt⟩
      obtain ⟨b, off, c', e, fz, rfl, hk, hp⟩ := hop (by omega)
      have h1 := hp.get ho
      obtain ⟨k, y, rfl⟩ := op_split (hu _ (List.mem_of_getElem? ho))
      have hdr : l.drop i = ⟨(k : Int), (y.toNat : Int)⟩ :: l.drop (i + 1) := by
        rw [← List.getElem_cons_drop (h := hlt), (List.getElem?_eq_some_iff.1 ho).2]
      rw [hdr, Edit.cost] at hap
      by_cases hk5 : 1 ≤ k ∧ k ≤ 5
      · rw [if_pos (by simp only []; omega)] at hap
        obtain ⟨f, fn, caps, hTC, hini, hlook, hprice⟩ := price_any c bc hk5
        have hpr := pr_bounds hc k
        repeat' (first | ((with_reducible first | apply o_lookT_in (j := k - 1)); infer_instance; infer_instance; exact rfl; exact rfl; (first | exact Kn.old (by assumption) rfl | (apply Kn.oldA; assumption; ((focus (repeat (first | exact AO.nil | apply AO.cons | (apply AO.app; assumption)))) <;> done)) | (apply Kn.apart; assumption; ((focus (repeat (first | exact Apart.nil | apply Apart.own | (apply Apart.given; assumption) | (apply Apart.app; assumption)))) <;> done)) | (refine Kn.at ?_; ((focus (repeat (first | assumption | exact At.hd | refine At.tl ?_ | (refine At.left ?_; assumption) | refine At.right ?_))) <;> done))); exact pmap_mk bc; exact rfl; exact hlook; exact rfl) | ((with_reducible apply o_call_pureV (f := f)); exact rfl; exact rfl; (repeat (first | exact Evs.nil | apply Evs.cons rfl)); exact (fun w hw => hprice w (hw.at (by ((focus (repeat (first | assumption | exact At.hd | refine At.tl ?_ | (refine At.left ?_; assumption) | refine At.right ?_))) <;> done))))) | ((with_reducible first | apply o_move | apply o_assign | apply o_faddr0 | apply o_not_d); exact rfl; exact rfl) | ((with_reducible apply gdo_load); first | refine wo_load (h := ?_) | refine wo_loadAll (h := ?_) | refine wo_loadC (h := ?_) | refine wo_ldV (h := ?_) | refine wo_ldF (h := ?_)) | ((with_reducible first | apply o_lss | apply o_gtr | apply o_extract); exact rfl; exact rfl; exact rfl) | ((with_reducible apply o_not); exact rfl; exact rfl) | ((with_reducible apply o_add); exact rfl; exact rfl; exact rfl; (constructor <;> omega)) | ((with_reducible apply o_alloc); exact rfl; intro _) | ((with_reducible apply gdo_store); first | refine wo_store1 (h := ?_) | refine wo_storeA (h := ?_)) | ((with_reducible apply o_idx); infer_instance; infer_instance; exact rfl; exact rfl; (first | exact rfl | omega); exact rfl; (first | assumption | omega | decide)) | ((with_reducible first | apply c_seq | apply c_block | apply c_region | apply c_nil | apply c_ret | apply c_exit | apply c_unroll | apply c_skip)) | ((with_reducible apply c_cond_t); exact rfl; exact tT_) | ((with_reducible apply c_cond_f); exact rfl; exact fF_) | ((with_reducible first | apply e_then | apply e_then_ret | apply e_then_exit | apply e_in | apply e_in_ret | apply e_in_same)))
        refine l_again (i + 1, s + Edit.pr c k) ⟨by simp only []; omega, by simp only []; omega, ?_⟩ (by simp only []; omega) ?_ ?_
        · simp only []
          rw [hap]
          simp only [Int.toNat_natCast]
          cases Edit.cost c (l.drop (i + 1)) <;> simp [Int.add_assoc]
        · (repeat (first | exact FSub.nil | refine FSub.cons rfl ?_))
        · ((try dsimp only); repeat (first | exact HSub.nil rfl | (apply HSub.take; (repeat (first | exact Rem.hd | apply Rem.tl | apply Rem.right))) | exact HSub.same | apply HSub.drop | (apply HSub.takeL; (focus ((repeat (first | exact RemL.hd | exact RemL.all | exact RemL.nil | apply RemL.tl | apply RemL.right))))) | (apply HSub.takeA; (first | exact RemL.hd | exact RemL.all); ((focus (repeat (first | exact AO.nil | apply AO.cons | (apply AO.app; assumption)))) <;> done)) | (apply HSub.dropL; assumption) | (apply HSub.takeA; (focus ((repeat (first | exact RemL.hd | exact RemL.all | exact RemL.nil | apply RemL.tl | apply RemL.right)))); ((focus (repeat (first | exact AO.nil | apply AO.cons | (apply AO.app; assumption)))) <;> done)) | (apply HSub.nilA; ((focus (repeat (first | exact AO.nil | apply AO.cons | (apply AO.app; assumption)))) <;> done))))
      · have hno : ∀ p ∈ pmap bc, p.1 ≠ .int .u8 (k : Int) := by simp [pmap]; omega
        rw [if_neg (by simp only []; omega)] at hap
        repeat' (first | ((with_reducible apply o_lookT_out); infer_instance; infer_instance; infer_instance; exact rfl; exact rfl; (first | exact Kn.old (by assumption) rfl | (apply Kn.oldA; assumption; ((focus (repeat (first | exact AO.nil | apply AO.cons | (apply AO.app; assumption)))) <;> done)) | (apply Kn.apart; assumption; ((focus (repeat (first | exact Apart.nil | apply Apart.own | (apply Apart.given; assumption) | (apply Apart.app; assumption)))) <;> done)) | (refine Kn.at ?_; ((focus (repeat (first | assumption | exact At.hd | refine At.tl ?_ | (refine At.left ?_; assumption) | refine At.right ?_))) <;> done))); exact pmap_mk bc; exact rfl; exact hno; exact rfl) | ((with_reducible first | apply o_move | apply o_assign | apply o_faddr0 | apply o_not_d); exact rfl; exact rfl) | ((with_reducible apply gdo_load); first | refine wo_load (h := ?_) | refine wo_loadAll (h := ?_) | refine wo_loadC (h := ?_) | refine wo_ldV (h := ?_) | refine wo_ldF (h := ?_)) | ((with_reducible first | apply o_lss | apply o_gtr | apply o_extract); exact rfl; exact rfl; exact rfl) | ((with_reducible apply o_not); exact rfl; exact rfl) | ((with_reducible apply o_alloc); exact rfl; intro _) | ((with_reducible apply gdo_store); first | refine wo_store1 (h := ?_) | refine wo_storeA (h := ?_)) | ((with_reducible apply o_idx); infer_instance; infer_instance; exact rfl; exact rfl; (first | exact rfl | omega); exact rfl; (first | assumption | omega | decide)) | ((with_reducible first | apply c_seq | apply c_block | apply c_region | apply c_nil | apply c_ret | apply c_exit | apply c_unroll | apply c_skip)) | ((with_reducible apply c_cond_t); exact rfl; exact tT_) | ((with_reducible first | apply e_then | apply e_then_ret | apply e_then_exit | apply e_in | apply e_in_ret | apply e_in_same)))
        apply r_body; apply res2 Try.results22; exact rV_; exact rV_; intro w' hw
        rw [hap]
        exact ⟨rfl, hw.below (show AO _ from by ((focus (repeat (first | exact AO.nil | apply AO.cons | (apply AO.app; assumption)))) <;> done))⟩
    · have hil : i = l.length := by omega
      subst hil
      rw [List.drop_length] at hap
      repeat' (first | ((with_reducible first | apply o_move | apply o_assign | apply o_faddr0 | apply o_not_d); exact rfl; exact rfl) | ((with_reducible first | apply o_lss | apply o_gtr | apply o_extract); exact rfl; exact rfl; exact rfl) | ((with_reducible first | apply c_seq | apply c_block | apply c_region | apply c_nil | apply c_ret | apply c_exit | apply c_unroll | apply c_skip)) | ((with_reducible apply c_cond_f); exact rfl; exact fF_) | ((with_reducible first | apply e_then | apply e_then_ret | apply e_then_exit | apply e_in | apply e_in_ret | apply e_in_same)))
      apply r_body; apply res2 Try.results22; exact rV_; exact rV_; intro w' hw
      refine ⟨?_, hw.below (show AO _ from by ((focus (repeat (first | exact AO.nil | apply AO.cons | (apply AO.app; assumption)))) <;> done))⟩
      rw [hap]
      simp [Edit.cost]
  · have hr : ∀ w, Calls Try.prog 13 #[costV c] w fun e w' => e = .returned (.bool false) ∧ Below w.heap.size w w' := fun w => by
      have := right_calls c w; rwa [B_false hc] at this
    unfold costR
    rw [if_neg hc]
    refine f_enter2 Try.func22 rfl Try.ntmps22 rfl (Rep.start w) ?_
    repeat' (first | ((first | ((with_reducible apply o_call_pure (f := 13)); exact rfl) | ((with_reducible apply q_call_pure (f := 13)); exact rfl; kernel_rfl; exact rfl; (focus (repeat (first | (apply SubJ.keep; (decide +kernel)) | apply SubJ.drop | exact SubJ.nil))))); (repeat (first | exact Evs.nil | apply Evs.cons rfl)); exact (fun w _ => hr w)) | ((with_reducible first | apply o_move | apply o_assign | apply o_faddr0 | apply o_not_d); exact rfl; exact rfl) | ((with_reducible apply gdo_load); first | refine wo_load (h := ?_) | refine wo_loadAll (h := ?_) | refine wo_loadC (h := ?_) | refine wo_ldV (h := ?_) | refine wo_ldF (h := ?_)) | ((with_reducible apply o_not); exact rfl; exact rfl) | ((with_reducible apply o_box); exact rfl; exact rfl; exact rfl; intro _) | ((with_reducible first | apply c_seq | apply c_block | apply c_region | apply c_nil | apply c_ret | apply c_exit | apply c_unroll | apply c_skip)) | ((with_reducible apply c_cond_t); exact rfl; exact tT_) | ((with_reducible first | apply e_then | apply e_then_ret | apply e_then_exit | apply e_in | apply e_in_ret | apply e_in_same)))
    apply r_body; apply res2 Try.results22; exact rV_; exact rV_; intro w' hw
    exact ⟨rfl, hw.below (by simp)⟩
end Go.Proofs.Ytgkejkfodigdiaa
