/-
  What the law reads of its arguments: a leg and numbers.
-/
import Derived.Test.YtcocnhfbdcapbaaSxA
import Derived.Test.YtcocnhfbdcapbaaT3
import Derived.Test.YtcocnhfbdcapbaaT10
set_option linter.unusedSimpArgs false
set_option linter.unusedVariables false
namespace Go.Proofs.Ytcocnhfbdcapbaa
open Go Go.ChangeShapes Go.WideShapes Go.ChangeAt Go.RowKit Go.Sx
set_option linter.unusedVariables false
theorem own : ownKnob Try.prog.godebug = none := by kernel_rfl
theorem laidOut : laidOutB Try.prog = true := by kernel_rfl
theorem cells23 : Try.prog.cellsOf 23 = 8 := by kernel_rfl
theorem cells3 : Try.prog.cellsOf 3 = 1 := by kernel_rfl
theorem cells5 : Try.prog.cellsOf 5 = 1 := by kernel_rfl
section
variable {H : Type} {enc : TypeId × Value → H} {w : World}
theorem rd_leg {cs : List Value} (h : Rd enc Try.prog w 23 cs) : ∃ l : Leg, cs = legC l ∧ U8 l := by
  obtain ⟨hl, hf⟩ := h.struct Try.underlying23
  rw [cells23] at hl
  obtain ⟨a, b, c, d, e, f, g, i, rfl⟩ := list8 hl
  obtain ⟨a', ha, _⟩ := Rd.int Try.underlying3 (hf 0 _ rfl)
  obtain ⟨b', hb, _⟩ := Rd.int Try.underlying3 (hf 1 _ rfl)
  obtain ⟨c', hc, _⟩ := Rd.int Try.underlying3 (hf 2 _ rfl)
  obtain ⟨d', hd, _⟩ := Rd.int Try.underlying3 (hf 3 _ rfl)
  obtain ⟨e', he, _⟩ := Rd.int Try.underlying3 (hf 4 _ rfl)
  obtain ⟨f', hf', _⟩ := Rd.int Try.underlying3 (hf 5 _ rfl)
  obtain ⟨g', hg, _⟩ := Rd.int Try.underlying3 (hf 6 _ rfl)
  obtain ⟨i', hi, wi⟩ := Rd.int Try.underlying5 (hf 7 _ rfl)
  obtain rfl : a = .int .i64 a' := by simpa [cells3] using ha
  obtain rfl : b = .int .i64 b' := by simpa [cells3] using hb
  obtain rfl : c = .int .i64 c' := by simpa [cells3] using hc
  obtain rfl : d = .int .i64 d' := by simpa [cells3] using hd
  obtain rfl : e = .int .i64 e' := by simpa [cells3] using he
  obtain rfl : f = .int .i64 f' := by simpa [cells3] using hf'
  obtain rfl : g = .int .i64 g' := by simpa [cells3] using hg
  obtain rfl : i = .int .u8 i' := by simpa [cells5] using hi
  refine ⟨⟨a', b', c', d', e', f', g', i'⟩, rfl, ?_⟩
  simp only [Lit.wf, Bool.and_eq_true, decide_eq_true_eq] at wi
  exact wi
theorem arg_leg {r : Reach} {b0 : Nat} {v : Value} {d : DataW H} {ps : List MemPlace} (hv : Value.okWide Try.prog w r b0 23 v) (h : DataW.Trod enc Try.prog w 0 (fun _ => true) true 23 v d ps) : ∃ l : Leg, v = legV l ∧ U8 l := by
  obtain ⟨cs, rfl, _⟩ := okWide_struct Try.underlying23 hv
  obtain ⟨l, h1, h2⟩ := rd_leg (Rd.of h)
  refine ⟨l, ?_, h2⟩
  simp only [Value.cells] at h1
  show Value.agg cs = .agg (legC l).toArray
  rw [← h1]
theorem arg_int {r : Reach} {b0 : Nat} {v : Value} {d : DataW H} {ps : List MemPlace} (hv : Value.okWide Try.prog w r b0 3 v) (h : DataW.Trod enc Try.prog w 0 (fun _ => true) true 3 v d ps) : ∃ n, v = .int .i64 n ∧ (-9223372036854775808 ≤ n ∧ n ≤ 9223372036854775807) := by
  obtain ⟨n, rfl, _, _, hw⟩ := open_int Try.underlying3 hv h
  refine ⟨n, rfl, ?_⟩
  simp only [Lit.wf, Bool.and_eq_true, decide_eq_true_eq] at hw
  exact hw
theorem arg_u8 {r : Reach} {b0 : Nat} {v : Value} {d : DataW H} {ps : List MemPlace} (hv : Value.okWide Try.prog w r b0 5 v) (h : DataW.Trod enc Try.prog w 0 (fun _ => true) true 5 v d ps) : ∃ n, v = .int .u8 n ∧ (0 ≤ n ∧ n ≤ 255) := by
  obtain ⟨n, rfl, _, _, hw⟩ := open_int Try.underlying5 hv h
  refine ⟨n, rfl, ?_⟩
  simp only [Lit.wf, Bool.and_eq_true, decide_eq_true_eq] at hw
  exact hw
end
end Go.Proofs.Ytcocnhfbdcapbaa
