/-
  A part of the proofs of this seat: what some of the program's functions compute, shown by walks through their code. Conditions: the hypotheses that each theorem names. (Its blocks of tactics were laid by a small program.)
-/
import Derived.Test.YteilhjglohahoaaQ8
import Derived.Test.YteilhjglohahoaaQJ
set_option linter.unusedSimpArgs false
set_option linter.unusedVariables false
namespace Go.Proofs.Yteilhjglohahoaa
open Go Go.Sx Go.RowKit
attribute [local irreducible] WL WC WQ WR St Exit.then Exit.inBlock Exit.noGoto bodyPost roundPost beginK YR RG BM Calls B AgainD MeetD
/-! ## the results, taken apart -/
def sortψ (r : Seq.Run) (k : Int) (v : Value) (N : List Ent) : Prop := ∃ a1 c1 a2 c2 a3 c3 ss1 ss2 N1 M1 N2 M2 N3, v = .tuple #[.agg #[.slice a1 r.first.length c1, .slice a2 r.second.length c2, .slice a3 r.order.length c3], .int .i64 k] ∧
  OW 24 1 encS (.slice a1 r.first.length c1) ss1 N1 ∧ LL 3 1 encN ss1 r.first M1 ∧ OW 24 1 encS (.slice a2 r.second.length c2) ss2 N2 ∧ LL 3 1 encN ss2 r.second M2 ∧ OW 3 1 encN (.slice a3 r.order.length c3) r.order N3 ∧ N = N1 ++ (M1 ++ (N2 ++ (M2 ++ N3))) ∧
  (∀ x ∈ N1, x.own = true) ∧ (∀ x ∈ M1, x.own = true) ∧ (∀ x ∈ N2, x.own = true) ∧ (∀ x ∈ M2, x.own = true) ∧ ∀ x ∈ N3, x.own = true
theorem sort_calls' {pv iv : Value} {p : Seq.Plan} {items : List Int} {r : Seq.Run} {k : Int} (he : Seq.sortF p items = (r, k)) (w : World) (hp : PV w pv p) (hi : SV w 1 encI iv items) : Calls Try.prog 23 #[pv, iv] w fun e w' => ∃ v N, e = .returned v ∧ sortψ r k v N ∧ Rep w w' N ∧ ∀ x ∈ N, x.own = true :=
  (sort_calls w hp hi).mono fun e w' ⟨v, N, h1, h2, h3, h4⟩ => by
    rw [he] at h2
    obtain ⟨rv, rfl, ⟨a1, c1, a2, c2, a3, c3, ss1, ss2, N1, M1, N2, M2, N3, rfl, g1, g2, g3, g4, g5, rfl⟩, _⟩ := h2
    exact ⟨_, _, h1, ⟨a1, c1, a2, c2, a3, c3, ss1, ss2, N1, M1, N2, M2, N3, rfl, g1, g2, g3, g4, g5, rfl, g1.own, g2.own, g3.own, g4.own, g5.own⟩, h3, h4⟩
/-- Numbers of items, as numbers. -/
theorem SV.nats {w : World} {v : Value} {l : List Nat} (h : SV w 1 encN v l) : SV w 1 encI v (l.map fun (i : Nat) => (i : Int)) := by
  obtain ⟨a, cap, rfl, hc, h2⟩ := h
  refine ⟨a, cap, by simp, by simpa using hc, ?_⟩
  rcases h2 with rfl | ⟨b, off, c, e, fz, h2, h3, h4⟩
  · exact .inl rfl
  · refine .inr ⟨b, off, c, e, fz, h2, h3, fun i x hx j u hj => ?_⟩
    rw [List.getElem?_map] at hx
    cases hl : l[i]? with
    | none => rw [hl] at hx; cases hx
    | some y => rw [hl] at hx; cases hx; exact h4 i y hl j u hj
/-! ## the examples -/
def exR : Seq.Run := ⟨[[0, 2, 3], [1, 4]], [[2, 1, 4], [0, 3]], [2, 1, 4, 0, 3]⟩
theorem ex_sort : Seq.sortF exP [7, 6, 5, 7, 6] = (exR, 0) := by decide +kernel
theorem ex_none : Seq.sortF exP [8] = (.zero, 6) := by decide +kernel
theorem ex_full : Seq.sortF exP [5, 5, 5] = (.zero, 4) := by decide +kernel
theorem ex_three : Seq.makeF [⟨1, 3⟩, ⟨2, 3⟩, ⟨3, 3⟩] [5, 5] = (.zero, 4) := by decide +kernel
theorem ex_five : Seq.makeF [⟨1, 1⟩, ⟨2, 1⟩, ⟨3, 1⟩, ⟨4, 1⟩, ⟨5, 1⟩] [9, 9] = (.zero, 4) := by decide +kernel
end Go.Proofs.Yteilhjglohahoaa
