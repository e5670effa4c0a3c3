/-
  A part of the proofs of this seat: what some of the program's functions compute, shown by walks through their code. Conditions: the hypotheses that each theorem names. (Its blocks of tactics were laid by a small program.)
-/
import Derived.Test.YteilhjglohahoaaQ4
set_option linter.unusedSimpArgs false
set_option linter.unusedVariables false
namespace Go.Proofs.Yteilhjglohahoaa
open Go Go.Sx Go.RowKit
/-! ## seats, by their stops -/
def encN (i : Nat) : List Value := [.int .i64 i]
theorem encN_len : ∀ x, (encN x).length = 1 := fun _ => rfl
theorem encN_one : ∀ x, (encN x).all (·.oneCell') = true := fun _ => rfl
@[reducible] def seatV (s : Seq.Seat) : Value := .agg #[.int .i64 s.stop, .int .i64 s.vol, .int .i64 s.first, .int .i64 s.second]
def seatM (l : List Seq.Seat) : List (Value × Value) := l.map fun s => (.int .i64 s.stop, seatV s)
theorem seatM_mk {l : List Seq.Seat} (h : (l.map Seq.Seat.stop).Nodup) : MK (.int .i64) (seatM l) := by
  refine ⟨fun p hp => ?_, ?_⟩
  · obtain ⟨s, _, rfl⟩ := List.mem_map.1 hp
    rfl
  · have e : (seatM l).map Prod.fst = (l.map Seq.Seat.stop).map (fun x => Value.int .i64 x) := by simp [seatM, Function.comp_def]
    rw [e]
    exact List.pairwise_map.2 (h.imp fun hne e => hne (by cases e; rfl))
theorem findF_some {l : List Seq.Seat} {x : Int} {s : Seq.Seat} (h : Seq.findF l x = some s) : ∃ j : Nat, l[j]? = some s ∧ s.stop = x := by
  unfold Seq.findF at h
  have h1 := List.find?_some h
  obtain ⟨j, hj⟩ := List.getElem?_of_mem (List.mem_of_find?_eq_some h)
  exact ⟨j, hj, by simpa using h1⟩
theorem seatM_in {l : List Seq.Seat} {x : Int} {s : Seq.Seat} {j : Nat} (h : l[j]? = some s) (hx : s.stop = x) : (seatM l)[j]? = some (.int .i64 x, seatV s) := by simp [seatM, h, hx]
theorem seatM_out {l : List Seq.Seat} {x : Int} (h : Seq.findF l x = none) : ∀ p ∈ seatM l, p.1 ≠ .int .i64 x := by
  intro p hp e
  obtain ⟨s, hs, rfl⟩ := List.mem_map.1 hp
  unfold Seq.findF at h
  have := List.find?_eq_none.1 h s hs
  cases e
  simp at this
end Go.Proofs.Yteilhjglohahoaa
