/-
  What the laws of chapter 29 read of a case handed in.
-/
import Derived.Test.YtlahifpnncekgaaUE
set_option linter.unusedSimpArgs false
set_option linter.unusedVariables false
namespace Go.Proofs.Ytlahifpnncekgaa
open Go Go.ChangeShapes Go.WideShapes Go.ChangeAt Go.RowKit Go.Sx
theorem cellsTCASE : Try.prog.cellsOf 47 = 5 := by kernel_rfl
theorem cellsTBYTES : Try.prog.cellsOf 22 = 1 := by kernel_rfl
theorem list5 {α : Type} {l : List α} (h : l.length = 5) : ∃ a b c d e, l = [a, b, c, d, e] := by
  match l, h with
  | [a, b, c, d, e], _ => exact ⟨a, b, c, d, e, rfl⟩
section
variable {H : Type} {enc : TypeId × Value → H} {w : World}
set_option maxRecDepth 100000 in
theorem arg_case {r : Reach} {b0 : Nat} {v : Value} {d : DataW H} {ps : List MemPlace} (hv : Value.okWide Try.prog w r b0 47 v) (h : DataW.Trod enc Try.prog w 0 (fun _ => true) true 47 v d ps) :
    ∃ v0 v1 v2 v3 sw l0 l1 l2 l3, v = .agg #[v0, v1, v2, v3, .int .u8 sw] ∧ SV w 1 encB v0 l0 ∧ SV w 1 encB v1 l1 ∧ SV w 1 encB v2 l2 ∧ SV w 1 encB v3 l3 ∧ (0 ≤ sw ∧ sw ≤ 255) := by
  obtain ⟨cs, rfl, _⟩ := okWide_struct Try.underlying47 hv
  obtain ⟨hl, hf⟩ := (Rd.of h).struct Try.underlying47
  rw [cellsTCASE] at hl
  simp only [Value.cells] at hl hf
  obtain ⟨a, b, c, e, f, hab⟩ := list5 hl
  rw [hab] at hf
  obtain ⟨a', xa, ha, wa, _⟩ := rd_slice (good := fun _ => True) Try.underlying22 cellsB (by decide) encB_len (fun cs h => rd_byte h) (hf 0 _ rfl)
  obtain ⟨b', xb, hb, wb, _⟩ := rd_slice (good := fun _ => True) Try.underlying22 cellsB (by decide) encB_len (fun cs h => rd_byte h) (hf 1 _ rfl)
  obtain ⟨c', xc, hc, wc, _⟩ := rd_slice (good := fun _ => True) Try.underlying22 cellsB (by decide) encB_len (fun cs h => rd_byte h) (hf 2 _ rfl)
  obtain ⟨e', xe, he, we, _⟩ := rd_slice (good := fun _ => True) Try.underlying22 cellsB (by decide) encB_len (fun cs h => rd_byte h) (hf 3 _ rfl)
  obtain ⟨n, hn, hw⟩ := Rd.int Try.underlying5 (hf 4 _ rfl)
  simp only [Lit.wf, Bool.and_eq_true, decide_eq_true_eq] at hw
  obtain rfl : a = a' := by simpa [cellsTBYTES] using ha
  obtain rfl : b = b' := by simpa [cellsTBYTES] using hb
  obtain rfl : c = c' := by simpa [cellsTBYTES] using hc
  obtain rfl : e = e' := by simpa [cellsTBYTES] using he
  obtain rfl : f = .int .u8 n := by simpa [cellsB] using hn
  refine ⟨a, b, c, e, n, xa, xb, xc, xe, ?_, wa, wb, wc, we, hw⟩
  rw [show cs = #[a, b, c, e, .int .u8 n] from by rw [← Array.toArray_toList (xs := cs), hab]]
end
end Go.Proofs.Ytlahifpnncekgaa
