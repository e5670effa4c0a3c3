/-
  NetworkParts: whatever the network and the number, the law returns true, and its arguments read as they did. Conditions: none.
-/
import Derived.Test.YtcocnhfbdcapbaaN7
import Derived.Test.YtcocnhfbdcapbaaT17
import Derived.Test.YtcocnhfbdcapbaaSxE
namespace Go.Proofs.Ytcocnhfbdcapbaa
open Go Go.ChangeShapes Go.WideShapes Go.ChangeAt Go.RowKit Go.Sx
set_option linter.unusedVariables false
section
variable {H : Type} {enc : TypeId × Value → H} {w : World}
theorem cells39 : Try.prog.cellsOf 39 = 1 := by kernel_rfl
theorem cells40 : Try.prog.cellsOf 40 = 1 := by kernel_rfl
theorem cells42 : Try.prog.cellsOf 42 = 2 := by kernel_rfl
theorem rd_ints {cs : List Value} (h : Rd enc Try.prog w 39 cs) : ∃ v xs, cs = [v] ∧ SV w 1 encI v xs := by
  obtain ⟨v, xs, h1, h2, _⟩ := rd_slice (good := fun _ => True) Try.underlying39 cells3 (by decide) encI_len (fun cs h => by
    obtain ⟨n, h1, _⟩ := Rd.int Try.underlying3 h
    exact ⟨n, h1, trivial⟩) h
  exact ⟨v, xs, h1, h2⟩
theorem rd_legs {cs : List Value} (h : Rd enc Try.prog w 40 cs) : ∃ v xs, cs = [v] ∧ SV w 8 legC v xs ∧ ∀ l ∈ xs, U8 l :=
  rd_slice Try.underlying40 cells23 (by decide) legC_len (fun cs h => rd_leg h) h
theorem arg_net {r : Reach} {b0 : Nat} {v : Value} {d : DataW H} {ps : List MemPlace} (hv : Value.okWide Try.prog w r b0 42 v) (h : DataW.Trod enc Try.prog w 0 (fun _ => true) true 42 v d ps) :
    ∃ pv lv ps ls, v = netV pv lv ∧ SV w 1 encI pv ps ∧ SV w 8 legC lv ls ∧ ∀ l ∈ ls, U8 l := by
  obtain ⟨cs, rfl, _⟩ := okWide_struct Try.underlying42 hv
  obtain ⟨hl, hf⟩ := (Rd.of h).struct Try.underlying42
  rw [cells42] at hl
  simp only [Value.cells] at hl hf
  obtain ⟨a, b, hab⟩ : ∃ a b, cs.toList = [a, b] := by
    match h' : cs.toList, hl with
    | [a, b], _ => exact ⟨a, b, rfl⟩
  rw [hab] at hf
  obtain ⟨pv, ps, h1, g1⟩ := rd_ints (hf 0 _ rfl)
  obtain ⟨lv, ls, h2, g2, g3⟩ := rd_legs (hf 1 _ rfl)
  obtain rfl : a = pv := by simpa [cells39] using h1
  obtain rfl : b = lv := by simpa [cells40] using h2
  refine ⟨a, b, ps, ls, ?_, g1, g2, g3⟩
  unfold netV
  rw [← hab]
end
set_option maxRecDepth 100000 in
theorem networkParts_lifted (os : Os) (started : os.Started) (H : Type) (enc : TypeId × Value → H) :
    ReturnsInHanded {} Try.checked os 10 .any (Rows.networkPartsSpec.pre6 enc Try.prog Try.f10 Rows.networkPartsRow.domain false) (Rows.networkPartsSpec.post enc Try.prog Try.f10 false true false false) := by
  refine returnsInHanded_of_change (C := Try.checked) own started (by kernel_rfl) Try.func10
    (ChangeSpec.witness6 (enc := enc) (C := Try.checked) false ⟨#[], #[.agg #[.slice none 0 0, .slice none 0 0], .int .i64 0], []⟩ 8 (by kernel_rfl) (by kernel_rfl) (by kernel_rfl) (by kernel_rfl)) ?_
  intro W base args ds gs before hval0 hW hcnd _
  have hval : ∀ (j : Nat) t v, Try.f10.params[j]? = some t → args[j]? = some v → Value.okWide Try.prog W .any base t v := hval0
  have hW' := hW
  obtain ⟨p, q, hA0, hV, rfl, hfz, hnd⟩ := hW
  have hA : DataW.TrodAll enc Try.prog W 0 (fun _ => true) true Try.f10.params.toList args.toList ds p := hA0
  rw [Try.params10] at hA hval
  obtain ⟨v0, vs0, d0, ds0, p0, q0, hargs, rfl, rfl, h0, r0⟩ := trodAll_cons hA
  obtain ⟨v1, vs1, d1, ds1, p1, q1, rfl, rfl, rfl, h1, r1⟩ := trodAll_cons r0
  obtain ⟨rfl, rfl, rfl⟩ := trodAll_nil r1
  obtain rfl : args = #[v0, v1] := by cases args; simp_all
  obtain ⟨rfl, rfl⟩ := trodVars_none hV
  have lt0 := Rd.lt h0
  have hv0 := hval 0 42 v0 rfl rfl
  have lt1 := Rd.lt h1
  have hv1 := hval 1 3 v1 rfl rfl
  clear hA0 hval0
  obtain ⟨pv, lv, ps, ls, rfl, g1, g2, g3⟩ := arg_net hv0 h0
  obtain ⟨x1, rfl, w1⟩ := arg_int hv1 h1
  refine (parts_calls x1 W g1 g2 g3).mono fun e W' ⟨he, bel⟩ => ?_
  subst he
  exact ⟨_, rfl, _, _, _, [], _, [], hW', trodAll_mk1 (shut_bool Try.underlying4 _), (trodAll_cons_mk (Below.trod laidOut (by kernel_rfl) (of_decide_eq_true (by kernel_rfl)) h0 bel lt0) (trodAll_cons_mk (Below.trod laidOut (by kernel_rfl) (of_decide_eq_true (by kernel_rfl)) h1 bel lt1) trodAll_mk0)), rfl, bel.frame _, fun h => by cases h⟩
theorem networkParts_proved : Rows.NetworkPartsSaid :=
  OpenClaim.holds_of_wide 10 Try.f10 rfl rfl rfl rfl rfl rfl rfl ⟨rfl, rfl, rfl, rfl, rfl⟩ rfl rfl rfl rfl rfl (by kernel_rfl) Try.func10 (by kernel_rfl)
    (of_decide_eq_true (by kernel_rfl)) (by unfold Func.isWrapper; first | (rw [if_pos (by decide +kernel)]; kernel_rfl) | (rw [if_neg (by decide +kernel)]; exact ⟨rfl, rfl⟩))
    (fun os started H enc _ => networkParts_lifted os started H enc)
end Go.Proofs.Ytcocnhfbdcapbaa
