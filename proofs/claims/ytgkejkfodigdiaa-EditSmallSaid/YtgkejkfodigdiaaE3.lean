/-
  A part of the proofs of this seat: what some of the program's functions compute, shown by walks through their code. Conditions: the hypotheses that each theorem names. (Its blocks of tactics were laid by a small program.)
-/
import Derived.Test.YtgkejkfodigdiaaE2
set_option linter.unusedSimpArgs false
set_option linter.unusedVariables false
namespace Go.Proofs.Ytgkejkfodigdiaa
open Go Go.Sx Go.RowKit
attribute [local irreducible] WL WC WQ WR St Exit.then Exit.inBlock Exit.noGoto bodyPost roundPost beginK YR RG BM Calls B
/-! ## row after row -/
theorem zeros_row (n : Nat) : (List.replicate n [Value.int .i64 0]).flatten = (List.replicate n (0 : Int)).flatMap encI ++ [] := by
  rw [List.append_nil, List.flatMap_def, List.map_replicate]
  rfl
/-- The distances from a[i:] to all b[j:]. -/
def rowOf (c : Edit.Cs) (a b : Edit.T) (i : Nat) : List Int := (List.range (b.length + 1)).map fun j => Edit.D c (a.drop i) (b.drop j)
theorem rowOf_len (c : Edit.Cs) (a b : Edit.T) (i : Nat) : (rowOf c a b i).length = b.length + 1 := by simp [rowOf]
theorem rowOf_get (c : Edit.Cs) (a b : Edit.T) (i : Nat) {j : Nat} (h : j ≤ b.length) : (rowOf c a b i)[j]? = some (Edit.D c (a.drop i) (b.drop j)) := by
  simp [rowOf, show j < b.length + 1 from by omega]
theorem rowOf_ext {c : Edit.Cs} {a b : Edit.T} {i : Nat} {R : List Int} (hl : R.length = b.length + 1) (h : ∀ j, j ≤ b.length → R[j]? = some (Edit.D c (a.drop i) (b.drop j))) : R = rowOf c a b i := by
  apply List.ext_getElem?
  intro j
  by_cases hj : j ≤ b.length
  · rw [h j hj, rowOf_get c a b i hj]
  · rw [List.getElem?_eq_none (by omega), List.getElem?_eq_none (by rw [rowOf_len]; omega)]
theorem drop_step {a : Edit.T} {i : Nat} (h : i < a.length) : ∃ x, a.drop i = x :: a.drop (i + 1) := ⟨a[i], (List.getElem_cons_drop (h := h)).symm⟩
/-- One distance out of the rows behind it. -/
theorem least_calls {c : Edit.Cs} (hc : c.ok) {a b : Edit.T} (ha : a.length ≤ 60) (hb : b.length ≤ 60) {i j : Nat} (hi : i ≤ a.length) (hj : j ≤ b.length) {bt b0 b1 b2 : Nat} {R0 R1 R2 : List Int} {s0 s1 s2 : List Value} (w : World)
    (ht : w.heap[bt]? = some (Ce [slc b0 (b.length + 1), slc b1 (b.length + 1), slc b2 (b.length + 1)] 91)) (k0 : w.heap[b0]? = some (Ce (R0.flatMap encI ++ s0) 3)) (k1 : w.heap[b1]? = some (Ce (R1.flatMap encI ++ s1) 3)) (k2 : w.heap[b2]? = some (Ce (R2.flatMap encI ++ s2) 3))
    (n0 : R0.length = b.length + 1) (n1 : R1.length = b.length + 1) (n2 : R2.length = b.length + 1)
    (v0 : ∀ j', j' ≤ b.length → j < j' → R0[j']? = some (Edit.D c (a.drop i) (b.drop j'))) (v1 : i + 1 ≤ a.length → R1 = rowOf c a b (i + 1)) (v2 : i + 2 ≤ a.length → R2 = rowOf c a b (i + 2)) :
    Calls Try.prog 50 #[str (a.drop i), str (b.drop j), costV c, ptr bt, .int .i64 j] w fun e w' => e = .returned (.int .i64 (Edit.D c (a.drop i) (b.drop j))) ∧ Below w.heap.size w w' := by
  by_cases hi' : i = a.length
  · exact least_end hc (by simp; omega) (by simp; omega) (.inl (by simp [hi'])) bt j w
  by_cases hj' : j = b.length
  · exact least_end hc (by simp; omega) (by simp; omega) (.inr (by simp [hj'])) bt j w
  obtain ⟨x, hx⟩ := drop_step (a := a) (i := i) (by omega)
  obtain ⟨y, hy⟩ := drop_step (a := b) (i := j) (by omega)
  have v1 := v1 (by omega)
  have v0 := v0 (j + 1) (by omega) (by omega)
  rw [hx] at v0
  rw [hx, hy]
  refine least_in hc (by simp; omega) (by simp; omega) w ht k0 k1 k2 (by omega) n0 n1 n2 (by rw [v1]; exact rowOf_get c a b (i + 1) (by omega)) (by rw [v1, ← hy]; exact rowOf_get c a b (i + 1) (by omega)) v0 fun hs => ?_
  have hl : 2 ≤ (a.drop i).length ∧ 2 ≤ (b.drop j).length := by
    rw [hx, hy]
    have h := Edit.ok_len (k := 3) hs
    simp only [Edit.tk, Edit.wr] at h
    exact ⟨h.2.1, h.2.2.1⟩
  simp only [List.length_drop] at hl
  rw [v2 (by omega), List.drop_drop, List.drop_drop]
  exact rowOf_get c a b (i + 2) (by omega)
set_option maxHeartbeats 4000000 in
theorem eachRow_calls {c : Edit.Cs} (hc : c.ok) {a b : Edit.T} (ha : a.length ≤ 60) (hb : b.length ≤ 60) {f : FuncId} {fn : Func} [TC Try.prog f fn] (caps : Array Value) (Cb : Nat → List Ent → Prop)
    (hcb : ∀ k, k ≤ a.length → ∀ G, Cb k G → ∀ w0 w L0 br s, Rep w0 w (G ++ L0) → At L0 br (Ce ((rowOf c a b (a.length - k)).flatMap encI ++ s) 3) → Calls Try.prog f (#[slc br (b.length + 1)] ++ caps) w fun e w' => ∃ G', e = .returned (.tuple #[]) ∧ Cb (k + 1) G' ∧ Rep w0 w' (G' ++ L0))
    (G0 : List Ent) (h0 : Cb 0 G0) (w : World) (hw : Rep w w G0) :
    Calls Try.prog 32 #[str a, str b, costV c, .func (.func f) #[] caps] w fun e w' => ∃ G', e = .returned (.tuple #[]) ∧ Cb (a.length + 1) G' ∧ Rep w w' G' := by
  refine f_enter4 Try.func32 rfl Try.ntmps32 rfl (hw) ?_
  repeat' (first | ((with_reducible first | apply o_move | apply o_assign); exact rfl; exact rfl) | ((with_reducible apply o_alloc); exact rfl; intro _) | ((with_reducible apply o_box); exact rfl; exact rfl; exact rfl; intro _) | ((with_reducible first | apply c_seq | apply c_block | apply c_region | apply c_nil | apply c_ret | apply c_exit | apply c_unroll | apply c_skip)) | ((with_reducible first | apply e_then | apply e_then_ret | apply e_then_exit | apply e_in | apply e_in_ret | apply e_in_same)))
  rename_i bc bt
  apply c_loop1
  repeat' (first | (apply o_makeSlice (m := b.length + 1) (c := b.length + 1); infer_instance; infer_instance; exact rfl; exact rfl; exact rfl; exact rfl; decide; omega; exact rfl; intro _) | ((with_reducible first | apply o_move | apply o_assign); exact rfl; exact rfl) | ((with_reducible first | apply o_lss | apply o_geq); exact rfl; exact rfl; exact rfl) | ((with_reducible first | apply o_add | apply o_sub); exact rfl; exact rfl; exact rfl; (constructor <;> omega)) | ((with_reducible apply gdo_store); first | refine wo_store1 (h := ?_) | refine wo_storeA (h := ?_)) | ((with_reducible apply o_len_t); infer_instance; exact rfl; exact rfl) | ((with_reducible apply o_idxA); infer_instance; infer_instance; exact rfl; exact rfl; (first | exact Int.cast_ofNat_Int.symm | exact rfl | omega); exact rfl; (first | decide | omega)) | ((with_reducible first | apply c_seq | apply c_block | apply c_region | apply c_nil | apply c_ret | apply c_exit | apply c_unroll | apply c_skip)) | ((with_reducible apply c_cond_t); exact rfl; exact tT_) | ((with_reducible apply c_cond_f); exact rfl; exact fF_) | ((with_reducible first | apply e_then | apply e_then_ret | apply e_then_exit | apply e_in | apply e_in_ret | apply e_in_same)))
  rename_i b0 b1 b2
  simp only [zeros_row]
  apply c_loop (σ := Int × (Nat × Nat × Nat) × (List Int × List Int × List Int) × List Ent)
    (Fs := fun s => [(10, .int .i64 s.1), (8, ptr bt), (6, ptr bc), (3, .func (.func f) #[] caps), (1, str b), (0, str a)])
    (Ls := fun s => ⟨bt, Ce [slc s.2.1.1 (b.length + 1), slc s.2.1.2.1 (b.length + 1), slc s.2.1.2.2 (b.length + 1)] 91, true⟩ :: ⟨s.2.1.1, Ce (s.2.2.1.1.flatMap encI ++ []) 3, true⟩ :: ⟨s.2.1.2.1, Ce (s.2.2.1.2.1.flatMap encI ++ []) 3, true⟩ :: ⟨s.2.1.2.2, Ce (s.2.2.1.2.2.flatMap encI ++ []) 3, true⟩ :: ⟨bc, Ce (costC c) 23, true⟩ :: s.2.2.2)
    (I := fun s => (-1 ≤ s.1 ∧ s.1 ≤ a.length) ∧ (s.2.2.1.1.length = b.length + 1 ∧ s.2.2.1.2.1.length = b.length + 1 ∧ s.2.2.1.2.2.length = b.length + 1) ∧ (∀ i : Nat, (i : Int) = s.1 + 1 → i ≤ a.length → s.2.2.1.1 = rowOf c a b i) ∧ (∀ i : Nat, (i : Int) = s.1 + 2 → i ≤ a.length → s.2.2.1.2.1 = rowOf c a b i) ∧ ∀ k : Nat, (k : Int) = a.length - s.1 → Cb k s.2.2.2)
    (μ := fun s => (s.1 + 1).toNat) (s0 := ((a.length : Int), (b0, b1, b2), (List.replicate (b.length + 1) 0, List.replicate (b.length + 1) 0, List.replicate (b.length + 1) 0), G0))
  · refine ⟨by simp only []; omega, ⟨by simp, by simp, by simp⟩, fun i h1 h2 => by simp only [] at h1; omega, fun i h1 h2 => by simp only [] at h1; omega, fun k hk => ?_⟩
    obtain rfl : k = 0 := by simp only [] at hk; omega
    exact h0
  · (repeat (first | exact FSub.nil | refine FSub.cons rfl ?_))
  · ((try dsimp only); repeat (first | exact HSub.nil rfl | (apply HSub.take; (repeat (first | exact Rem.hd | apply Rem.tl | apply Rem.right))) | exact HSub.same | apply HSub.drop | (apply HSub.takeL; (focus ((repeat (first | exact RemL.hd | exact RemL.all | exact RemL.nil | apply RemL.tl | apply RemL.right))))) | (apply HSub.dropL; assumption) | (apply HSub.takeA; (focus ((repeat (first | exact RemL.hd | exact RemL.all | exact RemL.nil | apply RemL.tl | apply RemL.right)))); ((focus (repeat (first | exact AO.nil | apply AO.cons | (apply AO.app; assumption)))) <;> done)) | (apply HSub.nilA; ((focus (repeat (first | exact AO.nil | apply AO.cons | (apply AO.app; assumption)))) <;> done))))
  rintro ⟨ii, ⟨b0, b1, b2⟩, ⟨R0, R1, R2⟩, G⟩ ⟨hk, ⟨n0, n1, n2⟩, hR0, hR1, hG⟩
  simp only [] at hk n0 n1 n2 hR0 hR1 hG ⊢
  by_cases hlt : 0 ≤ ii
  · obtain ⟨i, rfl⟩ := Int.eq_ofNat_of_zero_le hlt
    have hia : i ≤ a.length := by omega
    repeat' (first | ((with_reducible first | apply o_move | apply o_assign); exact rfl; exact rfl) | ((with_reducible apply gdo_load); first | refine wo_load (h := ?_) | refine wo_loadAll (h := ?_) | refine wo_loadC (h := ?_) | refine wo_ldV (h := ?_) | refine wo_ldF (h := ?_)) | ((with_reducible first | apply o_lss | apply o_geq); exact rfl; exact rfl; exact rfl) | ((with_reducible apply gdo_store); first | refine wo_store1 (h := ?_) | refine wo_storeA (h := ?_)) | ((with_reducible apply o_len_t); infer_instance; exact rfl; exact rfl) | ((with_reducible apply o_idxA); infer_instance; infer_instance; exact rfl; exact rfl; (first | exact Int.cast_ofNat_Int.symm | exact rfl | omega); exact rfl; (first | decide | omega)) | ((with_reducible first | apply c_seq | apply c_block | apply c_region | apply c_nil | apply c_ret | apply c_exit | apply c_unroll | apply c_skip)) | ((with_reducible apply c_cond_t); exact rfl; exact tT_) | ((with_reducible first | apply e_then | apply e_then_ret | apply e_then_exit | apply e_in | apply e_in_ret | apply e_in_same)))
    apply c_loop (σ := Int × List Int)
      (Fs := fun s => [(11, .int .i64 s.1), (10, .int .i64 i), (8, ptr bt), (6, ptr bc), (3, .func (.func f) #[] caps), (1, str b), (0, str a)])
      (Ls := fun s => ⟨bt, Ce [slc b2 (b.length + 1), slc b0 (b.length + 1), slc b1 (b.length + 1)] 91, true⟩ :: ⟨b0, Ce (R0.flatMap encI ++ []) 3, true⟩ :: ⟨b1, Ce (R1.flatMap encI ++ []) 3, true⟩ :: ⟨b2, Ce (s.2.flatMap encI ++ []) 3, true⟩ :: ⟨bc, Ce (costC c) 23, true⟩ :: G)
      (I := fun s => (-1 ≤ s.1 ∧ s.1 ≤ b.length) ∧ s.2.length = b.length + 1 ∧ ∀ j : Nat, j ≤ b.length → s.1 < j → s.2[j]? = some (Edit.D c (a.drop i) (b.drop j)))
      (μ := fun s => (s.1 + 1).toNat) (s0 := ((b.length : Int), R2))
    · exact ⟨by simp only []; omega, n2, fun j h1 h2 => by simp only [] at h2; omega⟩
    · (repeat (first | exact FSub.nil | refine FSub.cons rfl ?_))
    · ((try dsimp only); repeat (first | exact HSub.nil rfl | (apply HSub.take; (repeat (first | exact Rem.hd | apply Rem.tl | apply Rem.right))) | exact HSub.same | apply HSub.drop | (apply HSub.takeL; (focus ((repeat (first | exact RemL.hd | exact RemL.all | exact RemL.nil | apply RemL.tl | apply RemL.right))))) | (apply HSub.dropL; assumption) | (apply HSub.takeA; (focus ((repeat (first | exact RemL.hd | exact RemL.all | exact RemL.nil | apply RemL.tl | apply RemL.right)))); ((focus (repeat (first | exact AO.nil | apply AO.cons | (apply AO.app; assumption)))) <;> done)) | (apply HSub.nilA; ((focus (repeat (first | exact AO.nil | apply AO.cons | (apply AO.app; assumption)))) <;> done))))
    rintro ⟨jj, R⟩ ⟨hj, nR, hR⟩
    simp only [] at hj nR hR ⊢
    by_cases hlt2 : 0 ≤ jj
    · obtain ⟨j, rfl⟩ := Int.eq_ofNat_of_zero_le hlt2
      have hjb : j ≤ b.length := by omega
      obtain ⟨z, hz⟩ : ∃ z, R[j]? = some z := ⟨_, List.getElem?_eq_getElem (by omega)⟩
      repeat' (first | ((first | ((with_reducible apply o_call_pure (f := 50)); exact rfl) | ((with_reducible apply q_call_pure (f := 50)); exact rfl; kernel_rfl; exact rfl; (focus (repeat (first | (apply SubJ.keep; (decide +kernel)) | apply SubJ.drop | exact SubJ.nil))))); (repeat (first | exact Evs.nil | apply Evs.cons rfl)); exact (fun w hw => least_calls hc ha hb hia hjb w (hw.at (by ((focus (repeat (first | assumption | exact At.hd | refine At.tl ?_ | (refine At.left ?_; assumption) | refine At.right ?_))) <;> done))) (hw.at (by ((focus (repeat (first | assumption | exact At.hd | refine At.tl ?_ | (refine At.left ?_; assumption) | refine At.right ?_))) <;> done))) (hw.at (by ((focus (repeat (first | assumption | exact At.hd | refine At.tl ?_ | (refine At.left ?_; assumption) | refine At.right ?_))) <;> done))) (hw.at (by ((focus (repeat (first | assumption | exact At.hd | refine At.tl ?_ | (refine At.left ?_; assumption) | refine At.right ?_))) <;> done))) nR n0 n1 (fun j' h1 h2 => hR j' h1 (by omega)) (fun h => hR0 (i + 1) (by omega) h) (fun h => hR1 (i + 2) (by omega) h))) | ((apply q_storeS (enc := encI) (kl := 1) (m := j) (o := 0) (xs := R) (z := z) (Edit.D c (a.drop i) (b.drop j))); infer_instance; exact rfl; exact rfl; ((focus (repeat (first | assumption | exact At.hd | refine At.tl ?_ | (refine At.left ?_; assumption) | refine At.right ?_))) <;> done); exact hz; exact encI_len; omega; exact rfl; exact rfl; (intro u hu; simp at hu; subst hu; rfl); (exact Nat.le_refl _); exact rfl; (repeat (first | exact Upd.hd | apply Upd.tl | apply Upd.right))) | ((with_reducible first | apply o_move | apply o_assign); exact rfl; exact rfl) | ((with_reducible first | apply o_lss | apply o_geq); exact rfl; exact rfl; exact rfl) | ((with_reducible first | apply o_add | apply o_sub); exact rfl; exact rfl; exact rfl; (constructor <;> omega)) | ((with_reducible first | apply c_seq | apply c_block | apply c_region | apply c_nil | apply c_ret | apply c_exit | apply c_unroll | apply c_skip)) | ((with_reducible apply c_cond_t); exact rfl; exact tT_) | ((with_reducible first | apply e_then | apply e_then_ret | apply e_then_exit | apply e_in | apply e_in_ret | apply e_in_same)) | ((with_reducible apply c_regionD0 (id := 14) []); kernel_rfl; kernel_rfl) | ((with_reducible apply q_nil); try simp only [ents, List.cons_append, List.nil_append]) | ((with_reducible first | apply q_move | apply q_assign); exact rfl; exact rfl) | ((with_reducible apply gdq_load); first | refine wq_load (h := ?_) | refine wq_loadAll (h := ?_) | refine wq_loadC (h := ?_) | refine wq_ldV (h := ?_) | refine wq_ldF (h := ?_)) | ((with_reducible first | apply q_drop_t | apply q_take_t); infer_instance; exact rfl; exact rfl; (first | exact Int.cast_ofNat_Int.symm | exact rfl | omega); (first | assumption | omega | (simp only [List.length_drop, List.length_take, List.length_append]; omega)); exact rfl) | ((with_reducible apply q_idxA); infer_instance; infer_instance; exact rfl; exact rfl; (first | exact Int.cast_ofNat_Int.symm | exact rfl | omega); exact rfl; (first | decide | omega)) | ((with_reducible apply q_idx); infer_instance; infer_instance; exact rfl; exact rfl; (first | exact rfl | omega); exact rfl; (first | assumption | omega | decide)))
      refine l_again ((j : Int) - 1, R.set j (Edit.D c (a.drop i) (b.drop j))) ⟨by simp only []; omega, by simp only [List.length_set]; exact nR, fun j' h1 h2 => ?_⟩ (by simp only []; omega) ?_ ?_
      · simp only [] at h2 ⊢
        by_cases e : j' = j
        · subst e
          rw [List.getElem?_set_self (by omega)]
        · rw [List.getElem?_set_ne (fun h => e h.symm)]
          exact hR j' h1 (by omega)
      · (repeat (first | exact FSub.nil | refine FSub.cons rfl ?_))
      · ((try dsimp only); repeat (first | exact HSub.nil rfl | (apply HSub.take; (repeat (first | exact Rem.hd | apply Rem.tl | apply Rem.right))) | exact HSub.same | apply HSub.drop | (apply HSub.takeL; (focus ((repeat (first | exact RemL.hd | exact RemL.all | exact RemL.nil | apply RemL.tl | apply RemL.right))))) | (apply HSub.dropL; assumption) | (apply HSub.takeA; (focus ((repeat (first | exact RemL.hd | exact RemL.all | exact RemL.nil | apply RemL.tl | apply RemL.right)))); ((focus (repeat (first | exact AO.nil | apply AO.cons | (apply AO.app; assumption)))) <;> done)) | (apply HSub.nilA; ((focus (repeat (first | exact AO.nil | apply AO.cons | (apply AO.app; assumption)))) <;> done))))
    · obtain rfl : R = rowOf c a b i := rowOf_ext nR (fun j h => hR j h (by omega))
      have hcall : ∀ w0 w L0 br s, Rep w0 w (G ++ L0) → At L0 br (Ce ((rowOf c a b i).flatMap encI ++ s) 3) → Calls Try.prog f (#[slc br (b.length + 1)] ++ caps) w fun e w' => ∃ u G', e = .returned u ∧ (u = .tuple #[] ∧ Cb (a.length - i + 1) G') ∧ Rep w0 w' (G' ++ L0) := fun w0 w L0 br s hw hv => by
        have := hcb (a.length - i) (by omega) G (hG _ (by omega)) w0 w L0 br s hw (by rw [show a.length - (a.length - i) = i from by omega]; exact hv)
        exact this.mono fun e w' ⟨G', g1, g2, g3⟩ => ⟨_, G', g1, ⟨rfl, g2⟩, g3⟩
      have hrl := rowOf_len c a b i
      repeat' (first | ((apply o_call_frame (f := f) (G := G) (Φ := fun v G' => v = .tuple #[] ∧ Cb (a.length - i + 1) G')); exact rfl; exact rfl; (repeat (first | exact Evs.nil | apply Evs.cons rfl)); (repeat (first | exact RemL.hd | exact RemL.all | exact RemL.nil | apply RemL.tl | apply RemL.right)); (exact fun w hw => hcall _ w _ _ [] hw (by ((focus (repeat (first | assumption | exact At.hd | refine At.tl ?_ | (refine At.left ?_; assumption) | refine At.right ?_))) <;> done))); rintro v G' ⟨rfl, hG'⟩) | ((with_reducible first | apply o_move | apply o_assign); exact rfl; exact rfl) | ((with_reducible apply gdo_load); first | refine wo_load (h := ?_) | refine wo_loadAll (h := ?_) | refine wo_loadC (h := ?_) | refine wo_ldV (h := ?_) | refine wo_ldF (h := ?_)) | ((with_reducible first | apply o_lss | apply o_geq); exact rfl; exact rfl; exact rfl) | ((with_reducible first | apply o_add | apply o_sub); exact rfl; exact rfl; exact rfl; (constructor <;> omega)) | ((with_reducible apply o_idxA); infer_instance; infer_instance; exact rfl; exact rfl; (first | exact Int.cast_ofNat_Int.symm | exact rfl | omega); exact rfl; (first | decide | omega)) | ((with_reducible first | apply c_seq | apply c_block | apply c_region | apply c_nil | apply c_ret | apply c_exit | apply c_unroll | apply c_skip)) | ((with_reducible apply c_cond_f); exact rfl; exact fF_) | ((with_reducible first | apply e_then | apply e_then_ret | apply e_then_exit | apply e_in | apply e_in_ret | apply e_in_same)))
      refine l_again ((i : Int) - 1, (b2, b0, b1), (rowOf c a b i, R0, R1), G') ⟨by simp only []; omega, ⟨hrl, n0, n1⟩, fun i' h1 h2 => ?_, fun i' h1 h2 => ?_, fun k h1 => ?_⟩ (by simp only []; omega) ?_ ?_
      · obtain rfl : i' = i := by simp only [] at h1; omega
        rfl
      · exact hR0 i' (by simp only [] at h1; omega) h2
      · obtain rfl : k = a.length - i + 1 := by simp only [] at h1; omega
        exact hG'
      · (repeat (first | exact FSub.nil | refine FSub.cons rfl ?_))
      · ((try dsimp only); repeat (first | exact HSub.nil rfl | (apply HSub.take; (repeat (first | exact Rem.hd | apply Rem.tl | apply Rem.right))) | exact HSub.same | apply HSub.drop | (apply HSub.takeL; (focus ((repeat (first | exact RemL.hd | exact RemL.all | exact RemL.nil | apply RemL.tl | apply RemL.right))))) | (apply HSub.dropL; assumption) | (apply HSub.takeA; (focus ((repeat (first | exact RemL.hd | exact RemL.all | exact RemL.nil | apply RemL.tl | apply RemL.right)))); ((focus (repeat (first | exact AO.nil | apply AO.cons | (apply AO.app; assumption)))) <;> done)) | (apply HSub.nilA; ((focus (repeat (first | exact AO.nil | apply AO.cons | (apply AO.app; assumption)))) <;> done))))
  · repeat' (first | ((with_reducible first | apply o_move | apply o_assign); exact rfl; exact rfl) | ((with_reducible first | apply o_lss | apply o_geq); exact rfl; exact rfl; exact rfl) | ((with_reducible first | apply c_seq | apply c_block | apply c_region | apply c_nil | apply c_ret | apply c_exit | apply c_unroll | apply c_skip)) | ((with_reducible apply c_cond_f); exact rfl; exact fF_) | ((with_reducible first | apply e_then | apply e_then_ret | apply e_then_exit | apply e_in | apply e_in_ret | apply e_in_same)))
    apply r_body'; apply res0 Try.results32; intro w' hw
    refine ⟨G, rfl, hG _ (by omega), hw.sub (by ((try dsimp only); repeat (first | exact HSub.nil rfl | (apply HSub.take; (repeat (first | exact Rem.hd | apply Rem.tl | apply Rem.right))) | exact HSub.same | apply HSub.drop | (apply HSub.takeL; (focus ((repeat (first | exact RemL.hd | exact RemL.all | exact RemL.nil | apply RemL.tl | apply RemL.right))))) | (apply HSub.dropL; assumption) | (apply HSub.takeA; (focus ((repeat (first | exact RemL.hd | exact RemL.all | exact RemL.nil | apply RemL.tl | apply RemL.right)))); ((focus (repeat (first | exact AO.nil | apply AO.cons | (apply AO.app; assumption)))) <;> done)) | (apply HSub.nilA; ((focus (repeat (first | exact AO.nil | apply AO.cons | (apply AO.app; assumption)))) <;> done)))))⟩
end Go.Proofs.Ytgkejkfodigdiaa
