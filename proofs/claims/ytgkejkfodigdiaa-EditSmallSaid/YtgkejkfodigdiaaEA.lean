/-
  What the laws of chapter 06 read of their arguments: texts, costs, scripts, numbers.
-/
import Derived.Test.YtgkejkfodigdiaaE14
set_option linter.unusedSimpArgs false
set_option linter.unusedVariables false
namespace Go.Proofs.Ytgkejkfodigdiaa
open Go Go.ChangeShapes Go.WideShapes Go.ChangeAt Go.RowKit Go.Sx
theorem own : ownKnob Try.prog.godebug = none := by kernel_rfl
theorem laidOut : laidOutB Try.prog = true := by kernel_rfl
theorem cells3 : Try.prog.cellsOf 3 = 1 := by kernel_rfl
theorem cells5 : Try.prog.cellsOf 5 = 1 := by kernel_rfl
theorem cells23 : Try.prog.cellsOf 23 = 4 := by kernel_rfl
theorem cells38 : Try.prog.cellsOf 38 = 2 := by kernel_rfl
section
variable {H : Type} {enc : TypeId × Value → H} {w : World}
theorem arg_int {r : Reach} {b0 : Nat} {v : Value} {d : DataW H} {ps : List MemPlace} (hv : Value.okWide Try.prog w r b0 3 v) (h : DataW.Trod enc Try.prog w 0 (fun _ => true) true 3 v d ps) : ∃ n, v = .int .i64 n ∧ (-9223372036854775808 ≤ n ∧ n ≤ 9223372036854775807) := by
  obtain ⟨n, rfl, _, _, hw⟩ := open_int Try.underlying3 hv h
  refine ⟨n, rfl, ?_⟩
  simp only [Lit.wf, Bool.and_eq_true, decide_eq_true_eq] at hw
  exact hw
theorem arg_u8 {r : Reach} {b0 : Nat} {v : Value} {d : DataW H} {ps : List MemPlace} (hv : Value.okWide Try.prog w r b0 5 v) (h : DataW.Trod enc Try.prog w 0 (fun _ => true) true 5 v d ps) : ∃ n, v = .int .u8 n ∧ (0 ≤ n ∧ n ≤ 255) := by
  obtain ⟨n, rfl, _, _, hw⟩ := open_int Try.underlying5 hv h
  refine ⟨n, rfl, ?_⟩
  simp only [Lit.wf, Bool.and_eq_true, decide_eq_true_eq] at hw
  exact hw
theorem arg_text {r : Reach} {b0 : Nat} {v : Value} {d : DataW H} {ps : List MemPlace} (hv : Value.okWide Try.prog w r b0 9 v) (h : DataW.Trod enc Try.prog w 0 (fun _ => true) true 9 v d ps) : ∃ l : List UInt8, v = str l ∧ l.length ≤ 9223372036854775807 := by
  obtain ⟨s, rfl⟩ := okWide_string Try.underlying9 hv
  obtain ⟨s', h1, h2⟩ := (Rd.of h).string Try.underlying9
  simp only [Value.cells] at h1
  have : maxLen = 9223372036854775807 := by decide
  refine ⟨s.data.toList, str_of s, ?_⟩
  have e : s = s' := by simpa using h1
  subst e
  rw [this] at h2
  rw [Array.length_toList]; exact h2
theorem list4 {α : Type} {l : List α} (h : l.length = 4) : ∃ a b c d, l = [a, b, c, d] := by
  match l, h with
  | [a, b, c, d], _ => exact ⟨a, b, c, d, rfl⟩
theorem list2 {α : Type} {l : List α} (h : l.length = 2) : ∃ a b, l = [a, b] := by
  match l, h with
  | [a, b], _ => exact ⟨a, b, rfl⟩
theorem arg_costs {r : Reach} {b0 : Nat} {v : Value} {d : DataW H} {ps : List MemPlace} (hv : Value.okWide Try.prog w r b0 23 v) (h : DataW.Trod enc Try.prog w 0 (fun _ => true) true 23 v d ps) : ∃ c : Edit.Cs, v = costV c ∧ ∀ x ∈ nums c, -9223372036854775808 ≤ x ∧ x ≤ 9223372036854775807 := by
  obtain ⟨cs, rfl, _⟩ := okWide_struct Try.underlying23 hv
  obtain ⟨hl, hf⟩ := (Rd.of h).struct Try.underlying23
  rw [cells23] at hl
  simp only [Value.cells] at hl hf
  obtain ⟨a, b, c, e, hab⟩ := list4 hl
  rw [hab] at hf
  obtain ⟨a', ha, wa⟩ := Rd.int Try.underlying3 (hf 0 _ rfl)
  obtain ⟨b', hb, wb⟩ := Rd.int Try.underlying3 (hf 1 _ rfl)
  obtain ⟨c', hc, wc⟩ := Rd.int Try.underlying3 (hf 2 _ rfl)
  obtain ⟨e', he, we⟩ := Rd.int Try.underlying3 (hf 3 _ rfl)
  obtain rfl : a = .int .i64 a' := by simpa [cells3] using ha
  obtain rfl : b = .int .i64 b' := by simpa [cells3] using hb
  obtain rfl : c = .int .i64 c' := by simpa [cells3] using hc
  obtain rfl : e = .int .i64 e' := by simpa [cells3] using he
  simp only [Lit.wf, Bool.and_eq_true, decide_eq_true_eq] at wa wb wc we
  refine ⟨⟨a', b', c', e'⟩, ?_, ?_⟩
  · show Value.agg cs = .agg (costC _).toArray
    congr 1
    apply Array.ext'
    rw [hab]; rfl
  · intro x hx
    simp only [nums, List.mem_cons, List.not_mem_nil, or_false] at hx
    rcases hx with rfl | rfl | rfl | rfl <;> assumption
theorem rd_op {cs : List Value} (h : Rd enc Try.prog w 38 cs) : ∃ o : Edit.Op, cs = opC o ∧ o.u8 := by
  obtain ⟨hl, hf⟩ := h.struct Try.underlying38
  rw [cells38] at hl
  obtain ⟨a, b, rfl⟩ := list2 hl
  obtain ⟨a', ha, wa⟩ := Rd.int Try.underlying5 (hf 0 _ rfl)
  obtain ⟨b', hb, wb⟩ := Rd.int Try.underlying5 (hf 1 _ rfl)
  obtain rfl : a = .int .u8 a' := by simpa [cells5] using ha
  obtain rfl : b = .int .u8 b' := by simpa [cells5] using hb
  refine ⟨⟨a', b'⟩, rfl, ?_⟩
  simp only [Lit.wf, Bool.and_eq_true, decide_eq_true_eq] at wa wb
  have wa : 0 ≤ a' ∧ a' ≤ 255 := wa
  have wb : 0 ≤ b' ∧ b' ≤ 255 := wb
  unfold Edit.Op.u8
  simp only []
  omega
end
end Go.Proofs.Ytgkejkfodigdiaa
