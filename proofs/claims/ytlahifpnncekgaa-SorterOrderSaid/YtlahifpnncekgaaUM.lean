/-
  A part of the proofs of this seat: what some of the program's functions compute, shown by walks through their code. Conditions: the hypotheses that each theorem names. (Its blocks of tactics were laid by a small program.)
-/
import Derived.Test.YtlahifpnncekgaaQ5
set_option linter.unusedSimpArgs false
set_option linter.unusedVariables false
namespace Go.Proofs.Ytlahifpnncekgaa
open Go Go.Sx Go.RowKit
/-! ## sets of numbers, as maps to one -/
def oneM (l : List Int) : List (Value × Value) := l.map fun x => (.int .i64 x, .int .i64 1)
theorem oneM_mk {l : List Int} (h : l.Nodup) : MK (.int .i64) (oneM l) := by
  refine ⟨fun p hp => ?_, ?_⟩
  · obtain ⟨x, _, rfl⟩ := List.mem_map.1 hp
    rfl
  · have e : (oneM l).map Prod.fst = l.map (fun x => Value.int .i64 x) := by simp [oneM, Function.comp_def]
    rw [e]
    exact List.pairwise_map.2 (h.imp fun hne e => hne (by cases e; rfl))
theorem oneM_out {l : List Int} {x : Int} (h : x ∉ l) : ∀ p ∈ oneM l, p.1 ≠ .int .i64 x := by
  intro p hp e
  obtain ⟨y, hy, rfl⟩ := List.mem_map.1 hp
  cases e; exact h hy
theorem oneM_len (l : List Int) : (oneM l).length = l.length := by simp [oneM]
theorem oneM_push (l : List Int) (x : Int) : oneM (l ++ [x]) = oneM l ++ [(.int .i64 x, .int .i64 1)] := by simp [oneM]
/-- What stands ahead of an element of some lists without repetition. -/
theorem ahead_not {T : List (List Int)} (h : T.flatten.Nodup) {i j : Nat} {xs : List Int} {x : Int} (hi : T[i]? = some xs) (hj : xs[j]? = some x) : ((T.take i).flatten ++ xs.take j).Nodup ∧ x ∉ (T.take i).flatten ++ xs.take j := by
  have e : T.flatten = ((T.take i).flatten ++ xs.take j) ++ (x :: (xs.drop (j + 1) ++ (T.drop (i + 1)).flatten)) := by
    have h1 : xs = xs.take j ++ x :: xs.drop (j + 1) := by
      conv => lhs; rw [← List.take_append_drop j xs, drop_at hj]
    conv => lhs; rw [← List.take_append_drop i T, drop_at hi, List.flatten_append, List.flatten_cons, h1]
    simp
  rw [e] at h
  have h2 := List.nodup_append.1 h
  exact ⟨h2.1, fun hm => h2.2.2 _ hm _ List.mem_cons_self rfl⟩
end Go.Proofs.Ytlahifpnncekgaa
