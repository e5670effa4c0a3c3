/-
  What the laws of chapter 06 read of their arguments: scripts.
-/
import Derived.Test.YtgkejkfodigdiaaEA
import Derived.Test.YtgkejkfodigdiaaSxE
set_option linter.unusedSimpArgs false
set_option linter.unusedVariables false
namespace Go.Proofs.Ytgkejkfodigdiaa
open Go Go.ChangeShapes Go.WideShapes Go.ChangeAt Go.RowKit Go.Sx
section
variable {H : Type} {enc : TypeId × Value → H} {w : World}
theorem arg_ops {r : Reach} {b0 : Nat} {v : Value} {d : DataW H} {ps : List MemPlace} (hv : Value.okWide Try.prog w r b0 33 v) (h : DataW.Trod enc Try.prog w 0 (fun _ => true) true 33 v d ps) : ∃ l : List Edit.Op, SV w 2 opC v l ∧ ∀ o ∈ l, o.u8 := by
  obtain ⟨a, len, cap, rfl⟩ := okWide_slice Try.underlying33 hv
  obtain ⟨v', xs, h1, h2, h3⟩ := rd_slice (good := Edit.Op.u8) Try.underlying33 cells38 (by decide) opC_len (fun cs h => rd_op h) (Rd.of h)
  simp only [Value.cells] at h1
  obtain rfl : Value.slice a len cap = v' := by simpa using h1
  exact ⟨xs, h2, h3⟩
end
end Go.Proofs.Ytgkejkfodigdiaa
