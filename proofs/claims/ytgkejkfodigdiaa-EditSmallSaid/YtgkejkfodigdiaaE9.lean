/-
  A part of the proofs of this seat: what some of the program's functions compute, shown by walks through their code. Conditions: the hypotheses that each theorem names. (Its blocks of tactics were laid by a small program.)
-/
import Derived.Test.YtgkejkfodigdiaaE8
set_option linter.unusedSimpArgs false
set_option linter.unusedVariables false
namespace Go.Proofs.Ytgkejkfodigdiaa
open Go Go.Sx Go.RowKit
attribute [local irreducible] WL WC WQ WR St Exit.then Exit.inBlock Exit.noGoto bodyPost roundPost beginK YR RG BM Calls B
/-! ## the reference: the table -/
/-- The best cost of the kinds ahead of k. -/
def Bst (c : Edit.Cs) (a b : Edit.T) (k : Nat) (v : Int) : Prop :=
  (v = -1 ∧ (a ≠ [] ∨ b ≠ []) ∧ ∀ k', 1 ≤ k' → k' < k → Edit.ok k' a b = false) ∨
  (0 ≤ v ∧ Edit.D c a b ≤ v ∧ (a = [] → b = [] → v = 0) ∧ ∀ k', 1 ≤ k' → k' < k → Edit.ok k' a b = true → v ≤ Edit.pr c k' + Edit.D c (a.drop (Edit.tk k')) (b.drop (Edit.wr k')))
theorem bst_zero {c : Edit.Cs} : Bst c [] [] 1 0 := .inr ⟨Int.le_refl _, by rw [Edit.D_nil]; simp, fun _ _ => rfl, fun k' h1 h2 => by omega⟩
theorem bst_none {c : Edit.Cs} {a b : Edit.T} (h : a ≠ [] ∨ b ≠ []) : Bst c a b 1 (-1) := .inl ⟨rfl, h, fun k' h1 h2 => by omega⟩
theorem bst_skip {c : Edit.Cs} {a b : Edit.T} {k : Nat} {v : Int} (h : Bst c a b k v) (hk : Edit.ok k a b = false) : Bst c a b (k + 1) v := by
  rcases h with ⟨h1, h2, h3⟩ | ⟨h0, h1, h2, h3⟩
  · refine .inl ⟨h1, h2, fun k' g1 g2 => ?_⟩
    by_cases e : k' = k
    · subst e; exact hk
    · exact h3 k' g1 (by omega)
  · refine .inr ⟨h0, h1, h2, fun k' g1 g2 g3 => ?_⟩
    by_cases e : k' = k
    · subst e; rw [hk] at g3; cases g3
    · exact h3 k' g1 (by omega) g3
theorem bst_keep {c : Edit.Cs} {a b : Edit.T} {k : Nat} {v : Int} (h : Bst c a b k v) (hv : ¬ v < 0) (hk : ¬ Edit.pr c k + Edit.D c (a.drop (Edit.tk k)) (b.drop (Edit.wr k)) < v) : Bst c a b (k + 1) v := by
  rcases h with ⟨h1, h2, h3⟩ | ⟨h0, h1, h2, h3⟩
  · omega
  · refine .inr ⟨h0, h1, h2, fun k' g1 g2 g3 => ?_⟩
    by_cases e : k' = k
    · subst e; omega
    · exact h3 k' g1 (by omega) g3
theorem bst_take {c : Edit.Cs} (hc : c.ok) {a b : Edit.T} {k : Nat} {v : Int} (h : Bst c a b k v) (ho : Edit.ok k a b = true) (hk : v < 0 ∨ Edit.pr c k + Edit.D c (a.drop (Edit.tk k)) (b.drop (Edit.wr k)) < v) : Bst c a b (k + 1) (Edit.pr c k + Edit.D c (a.drop (Edit.tk k)) (b.drop (Edit.wr k))) := by
  have h1 := Edit.D_le (c := c) ho
  have h2 := (Edit.D_bound hc (a.drop (Edit.tk k)) (b.drop (Edit.wr k))).1
  have h4 := (Edit.pr_ok hc k).1
  have hl := Edit.ok_len ho
  refine .inr ⟨by omega, h1, fun e1 e2 => ?_, fun k' g1 g2 g3 => ?_⟩
  · subst e1 e2
    simp at hl; omega
  · by_cases e : k' = k
    · subst e; exact Int.le_refl _
    · rcases h with ⟨h1, h2, h3⟩ | ⟨h0, h1, h2, h3⟩
      · rw [h3 k' g1 (by omega)] at g3; cases g3
      · have := h3 k' g1 (by omega) g3
        omega
theorem bst_end {c : Edit.Cs} {a b : Edit.T} {v : Int} (h : Bst c a b 6 v) : v = Edit.D c a b := by
  by_cases he : a ≠ [] ∨ b ≠ []
  · obtain ⟨k, hk, ho, hD⟩ := Edit.D_att c he
    rcases h with ⟨h1, h2, h3⟩ | ⟨h0, h1, h2, h3⟩
    · rw [h3 k hk.1 (by omega)] at ho; cases ho
    · have := h3 k hk.1 (by omega) ho
      omega
  · simp only [not_or, Decidable.not_not] at he
    obtain ⟨rfl, rfl⟩ := he
    rcases h with ⟨h1, h2, h3⟩ | ⟨h0, h1, h2, h3⟩
    · simp at h2
    · rw [h2 rfl rfl, Edit.D_nil]; simp
theorem bst_small {c : Edit.Cs} {a b : Edit.T} {k : Nat} {v : Int} (h : Bst c a b k v) : -1 ≤ v := by
  rcases h with ⟨h1, _⟩ | ⟨h0, _⟩ <;> omega
/-- The rows from i on. -/
def rowsFrom (c : Edit.Cs) (a b : Edit.T) (i : Nat) : List (List Int) := (List.range (a.length + 1 - i)).map fun t => rowOf c a b (i + t)
theorem rowsFrom_len (c : Edit.Cs) (a b : Edit.T) (i : Nat) : (rowsFrom c a b i).length = a.length + 1 - i := by simp [rowsFrom]
theorem rowsFrom_get (c : Edit.Cs) (a b : Edit.T) {i t : Nat} (h1 : i ≤ t) (h2 : t ≤ a.length) : (rowsFrom c a b i)[t - i]? = some (rowOf c a b t) := by
  simp only [rowsFrom, List.getElem?_map]
  rw [List.getElem?_range (by omega)]
  simp only [Option.map_some]
  congr 2; omega
theorem rowsFrom_cons (c : Edit.Cs) (a b : Edit.T) {i : Nat} (h : i ≤ a.length) : rowsFrom c a b i = rowOf c a b i :: rowsFrom c a b (i + 1) := by
  simp only [rowsFrom]
  rw [show a.length + 1 - i = (a.length + 1 - (i + 1)) + 1 from by omega, List.range_succ_eq_map, List.map_cons, List.map_map]
  congr 1
  apply List.map_congr_left
  intro t _
  simp only [Function.comp_apply]
  congr 1; omega
theorem zeros_rows (n : Nat) : (List.replicate n [Value.slice none 0 0]).flatten = (List.replicate n ((none, 0, 0) : SD)).flatMap encS ++ [] := by
  rw [List.append_nil, List.flatMap_def, List.map_replicate]
  rfl
end Go.Proofs.Ytgkejkfodigdiaa
