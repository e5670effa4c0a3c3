/-
  What the laws of chapter 28 read of a plan handed in.
-/
import Derived.Test.YteilhjglohahoaaQE
import Derived.Test.YteilhjglohahoaaQ2
set_option linter.unusedSimpArgs false
set_option linter.unusedVariables false
namespace Go.Proofs.Yteilhjglohahoaa
open Go Go.ChangeShapes Go.WideShapes Go.ChangeAt Go.RowKit Go.Sx
theorem cellsTPLAN : Try.prog.cellsOf 38 = 4 := by kernel_rfl
theorem cellsTYteilhjglohahoaaS : Try.prog.cellsOf 36 = 1 := by kernel_rfl
theorem cellsTYteilhjglohahoaa : Try.prog.cellsOf 60 = 4 := by kernel_rfl
theorem cellsTINTS : Try.prog.cellsOf 24 = 1 := by kernel_rfl
theorem list4 {α : Type} {l : List α} (h : l.length = 4) : ∃ a b c d, l = [a, b, c, d] := by
  match l, h with
  | [a, b, c, d], _ => exact ⟨a, b, c, d, rfl⟩
section
variable {H : Type} {enc : TypeId × Value → H} {w : World}
theorem rd_int {cs : List Value} (h : Rd enc Try.prog w 3 cs) : ∃ x : Int, cs = encI x ∧ True := by
  obtain ⟨n, rfl, _⟩ := Rd.int Try.underlying3 h
  exact ⟨n, rfl, trivial⟩
theorem rd_seat {cs : List Value} (h : Rd enc Try.prog w 60 cs) : ∃ s : Seq.Seat, cs = encSeat s ∧ True := by
  obtain ⟨hl, hf⟩ := h.struct Try.underlying60
  rw [cellsTYteilhjglohahoaa] at hl
  obtain ⟨a, b, c, e, rfl⟩ := list4 hl
  obtain ⟨a', ha, _⟩ := Rd.int Try.underlying3 (hf 0 _ rfl)
  obtain ⟨b', hb, _⟩ := Rd.int Try.underlying3 (hf 1 _ rfl)
  obtain ⟨c', hc, _⟩ := Rd.int Try.underlying3 (hf 2 _ rfl)
  obtain ⟨e', he, _⟩ := Rd.int Try.underlying3 (hf 3 _ rfl)
  obtain rfl : a = .int .i64 a' := by simpa [cells3] using ha
  obtain rfl : b = .int .i64 b' := by simpa [cells3] using hb
  obtain rfl : c = .int .i64 c' := by simpa [cells3] using hc
  obtain rfl : e = .int .i64 e' := by simpa [cells3] using he
  exact ⟨⟨a', b', c', e'⟩, rfl, trivial⟩
theorem arg_plan {r : Reach} {b0 : Nat} {v : Value} {d : DataW H} {ps : List MemPlace} (hv : Value.okWide Try.prog w r b0 38 v) (h : DataW.Trod enc Try.prog w 0 (fun _ => true) true 38 v d ps) : ∃ p : Seq.Plan, PV w v p := by
  obtain ⟨cs, rfl, _⟩ := okWide_struct Try.underlying38 hv
  obtain ⟨hl, hf⟩ := (Rd.of h).struct Try.underlying38
  rw [cellsTPLAN] at hl
  simp only [Value.cells] at hl hf
  obtain ⟨a, b, c, e, hab⟩ := list4 hl
  rw [hab] at hf
  obtain ⟨a', xa, ha, wa, _⟩ := rd_slice (good := fun _ => True) Try.underlying24 cells3 (by decide) encI_len (fun cs h => rd_int h) (hf 0 _ rfl)
  obtain ⟨b', xb, hb, wb, _⟩ := rd_slice (good := fun _ => True) Try.underlying36 cellsTYteilhjglohahoaa (by decide) encSeat_len (fun cs h => rd_seat h) (hf 1 _ rfl)
  obtain ⟨c', xc, hc, wc, _⟩ := rd_slice (good := fun _ => True) Try.underlying24 cells3 (by decide) encI_len (fun cs h => rd_int h) (hf 2 _ rfl)
  obtain ⟨e', xe, he, we, _⟩ := rd_slice (good := fun _ => True) Try.underlying24 cells3 (by decide) encI_len (fun cs h => rd_int h) (hf 3 _ rfl)
  obtain rfl : a = a' := by simpa [cellsTINTS] using ha
  obtain rfl : b = b' := by simpa [cellsTYteilhjglohahoaaS] using hb
  obtain rfl : c = c' := by simpa [cellsTINTS] using hc
  obtain rfl : e = e' := by simpa [cellsTINTS] using he
  refine ⟨⟨xa, xb, xc, xe⟩, a, b, c, e, ?_, wa, wb, wc, we⟩
  rw [show cs = #[a, b, c, e] from by rw [← Array.toArray_toList (xs := cs), hab]]
end
end Go.Proofs.Yteilhjglohahoaa
