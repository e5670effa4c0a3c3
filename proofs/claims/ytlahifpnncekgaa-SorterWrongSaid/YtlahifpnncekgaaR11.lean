/- What is rejected. Plain laws, no program in sight. -/
import Derived.Test.YtlahifpnncekgaaRR
set_option linter.unusedSimpArgs false
set_option linter.unusedVariables false
namespace Go.Sx.Srt
theorem not_caps_zero (l : List Int) : ¬ capsOk (l ++ [0]) := fun h => by
  have := h.2 0 (by simp)
  omega
theorem not_caps_nil : ¬ capsOk [] := fun h => by
  have := h.1
  simp at this
theorem runF_caps {caps : List Int} (h : ¬ capsOk caps) (s : Int) (l : List Fd) : runF caps s l = (M.new 0 0, 290) := by unfold runF; rw [if_pos h]
theorem runF_sweeps {caps : List Int} (h : capsOk caps) {s : Int} (hs : s < 0 ∨ 1000 < s) (l : List Fd) : runF caps s l = (M.new 0 0, 2) := by unfold runF; rw [if_neg (fun g => g h), if_pos hs]
theorem runF_fed {caps : List Int} (h : capsOk caps) {s k : Int} (hs : 0 ≤ s ∧ s ≤ 1000) {l : List Fd} (hl : fedF caps.length l = k) (hk : k ≠ 0) : runF caps s l = (M.new 0 0, k) := by unfold runF; rw [if_neg (fun g => g h), if_neg (by omega), if_pos (by rw [hl]; exact hk), hl]
theorem needF_caps {caps : List Int} (h : ¬ capsOk caps) (l : List Fd) : needF caps l = (0, 290) := by unfold needF; rw [if_pos h]
theorem needF_fed {caps : List Int} (h : capsOk caps) {k : Int} {l : List Fd} (hl : fedF caps.length l = k) (hk : k ≠ 0) : needF caps l = (0, k) := by unfold needF; rw [if_neg (fun g => g h), if_pos (by rw [hl]; exact hk), hl]
theorem fedF_many {n : Nat} {l : List Fd} (h : 2000 < l.length) : fedF n l = 5 := by unfold fedF; rw [if_pos h]
theorem fedF_bad {n : Nat} {l : List Fd} (hl : l.length ≤ 2000) (h : (∃ f ∈ l, ¬ f.ok n) ∨ ¬ (l.map Fd.item).Nodup) : fedF n l = 291 := by
  unfold fedF
  rw [if_neg (by omega)]
  cases hb : badF n [] l with
  | true => rfl
  | false =>
    have := badF_false.1 hb
    rcases h with ⟨f, hf, hn⟩ | h
    · exact absurd (this.1 f hf) hn
    · exact absurd this.2.1 h
/-- One feed of valid ones made wrong. -/
theorem fed_turned {n : Nat} {l : List Fd} (h : FdsOk n l) {k : Nat} {x0 xk s0 sk : Int} (h0 : l[0]? = some ⟨x0, s0⟩) (hk : l[k]? = some ⟨xk, sk⟩) {y : Fd} (hy : y ∈ [⟨xk, (n : Int)⟩, ⟨xk, -2⟩, (⟨x0, -1⟩ : Fd), ⟨0, 0⟩]) :
    (k = 0 ∧ y.item = x0 ∧ y.st = -1) ∨ (¬ (k = 0 ∧ y.item = x0 ∧ y.st = -1) ∧ fedF n (l.set k y) = 291) := by
  have hkl := (List.getElem?_eq_some_iff.1 hk).1
  have hlen : (l.set k y).length ≤ 2000 := by rw [List.length_set]; exact h.len
  have hmem : y ∈ l.set k y := List.mem_of_getElem? (i := k) (by rw [List.getElem?_set_self hkl])
  by_cases hs : k = 0 ∧ y.item = x0 ∧ y.st = -1
  · exact .inl hs
  · refine .inr ⟨hs, fedF_bad hlen ?_⟩
    simp only [List.mem_cons, List.not_mem_nil, or_false] at hy
    rcases hy with rfl | rfl | rfl | rfl
    · exact .inl ⟨_, hmem, by unfold Fd.ok; simp only []; omega⟩
    · exact .inl ⟨_, hmem, by unfold Fd.ok; simp only []; omega⟩
    · right
      have hk0 : k ≠ 0 := fun e => hs ⟨e, rfl, rfl⟩
      intro hnd
      have e1 : ((l.set k ⟨x0, -1⟩).map Fd.item)[0]? = some x0 := by rw [List.getElem?_map, List.getElem?_set_ne hk0, h0]; rfl
      have e2 : ((l.set k ⟨x0, -1⟩).map Fd.item)[k]? = some x0 := by rw [List.getElem?_map, List.getElem?_set_self hkl]; rfl
      have := (List.getElem?_inj (List.getElem?_eq_some_iff.1 e1).1 hnd).1 (e1.trans e2.symm)
      omega
    · exact .inl ⟨_, hmem, by unfold Fd.ok; simp only []; omega⟩
theorem fed_more {n : Nat} {l : List Fd} (hl : l.length ≤ 1000) : fedF n (l ++ [⟨1000000, 0⟩]) = 291 :=
  fedF_bad (by simp; omega) (.inl ⟨⟨1000000, 0⟩, by simp, by unfold Fd.ok; simp only []; omega⟩)
theorem twoE_zero (s : Int) (items : List It) : twoE .zero s items = 280 := by
  have : Seq.checkF .zero = (0, 280) := by
    unfold Seq.checkF
    rw [if_pos]
    unfold Seq.machineOk
    simp [Seq.Plan.zero]
  unfold twoE
  rw [this]
  rfl
theorem twoE_sweeps {p : Seq.Plan} (h : Seq.checkF p = (0, 0)) {s : Int} (hs : s < 0 ∨ 1000 < s) (items : List It) : twoE p s items = 2 := by
  unfold twoE; rw [h, if_neg (by simp), if_pos hs]
theorem twoE_many {p : Seq.Plan} (h : Seq.checkF p = (0, 0)) {s : Int} (hs : 0 ≤ s ∧ s ≤ 1000) {items : List It} (hl : 2000 < items.length) : twoE p s items = 5 := by
  unfold twoE; rw [h, if_neg (by simp), if_neg (by omega), if_pos hl]
theorem twoE_bad {p : Seq.Plan} (h : Seq.checkF p = (0, 0)) {s : Int} (hs : 0 ≤ s ∧ s ≤ 1000) {items : List It} (hl : items.length ≤ 2000) (hb : (∃ x ∈ items, ¬ (1 ≤ x.id ∧ x.id ≤ 999999)) ∨ ¬ (items.map It.id).Nodup) : twoE p s items = 292 := by
  unfold twoE
  rw [h, if_neg (by simp), if_neg (by omega), if_neg (by omega)]
  cases hc : badI [] items with
  | true => rfl
  | false =>
    have := badI_false.1 hc
    rcases hb with ⟨f, hf, hn⟩ | h
    · exact absurd (this.1 f hf) hn
    · exact absurd this.2.1 h
end Go.Sx.Srt
