/-
  A part of the proofs of this seat: what some of the program's functions compute, shown by walks through their code. Conditions: the hypotheses that each theorem names. (Its blocks of tactics were laid by a small program.)
-/
import Derived.Test.YteilhjglohahoaaQ4
import Derived.Test.YteilhjglohahoaaK1
import Derived.Test.YteilhjglohahoaaSxG
set_option linter.unusedSimpArgs false
set_option linter.unusedVariables false
namespace Go.Proofs.Yteilhjglohahoaa
open Go Go.Sx Go.RowKit
attribute [local irreducible] WL WC WQ WR St Exit.then Exit.inBlock Exit.noGoto bodyPost roundPost beginK YR RG BM Calls B AgainD MeetD
/-! ## the results, taken apart -/
def makeψ (p : Seq.Plan) (k : Int) (v : Value) (N : List Ent) : Prop := ∃ a1 c1 a2 c2 a3 c3 a4 c4 N1 N2 N3 N4, v = .tuple #[.agg #[.slice a1 p.caps.length c1, .slice a2 p.seats.length c2, .slice a3 p.first.length c3, .slice a4 p.second.length c4], .int .i64 k] ∧
  OW 3 1 encI (.slice a1 p.caps.length c1) p.caps N1 ∧ OW 60 4 encSeat (.slice a2 p.seats.length c2) p.seats N2 ∧ OW 3 1 encI (.slice a3 p.first.length c3) p.first N3 ∧ OW 3 1 encI (.slice a4 p.second.length c4) p.second N4 ∧ N = N1 ++ (N2 ++ (N3 ++ N4)) ∧
  (∀ x ∈ N1, x.own = true) ∧ (∀ x ∈ N2, x.own = true) ∧ (∀ x ∈ N3, x.own = true) ∧ ∀ x ∈ N4, x.own = true
theorem make_calls' {vs vc : Value} {l : List Seq.Stop} {caps : List Int} {p : Seq.Plan} {k : Int} (he : Seq.makeF l caps = (p, k)) (w : World) (hs : SV w 2 encStop vs l) (hc : SV w 1 encI vc caps) : Calls Try.prog 16 #[vs, vc] w fun e w' => ∃ v N, e = .returned v ∧ makeψ p k v N ∧ Rep w w' N ∧ ∀ x ∈ N, x.own = true :=
  (make_calls w hs hc).mono fun e w' ⟨v, N, h1, h2, h3, h4⟩ => by
    rw [he] at h2
    obtain ⟨pv, rfl, ⟨a1, c1, a2, c2, a3, c3, a4, c4, N1, N2, N3, N4, rfl, g1, g2, g3, g4, rfl⟩, _⟩ := h2
    exact ⟨_, _, h1, ⟨a1, c1, a2, c2, a3, c3, a4, c4, N1, N2, N3, N4, rfl, g1, g2, g3, g4, rfl, g1.own, g2.own, g3.own, g4.own⟩, h3, h4⟩
theorem check_calls' {pv : Value} {p : Seq.Plan} {i : Nat} {k : Int} (he : Seq.checkF p = (i, k)) (w : World) (h : PV w pv p) : Calls Try.prog 25 #[pv] w fun e w' => e = .returned (.tuple #[.int .i64 i, .int .i64 k]) ∧ Below w.heap.size w w' := by
  have := check_calls w h; rw [he] at this; exact this
theorem same_yes {va vb : Value} {xs ys : List Int} (he : xs = ys) (w : World) (ha : SV w 1 encI va xs) (hb : SV w 1 encI vb ys) : Calls Try.prog 21 #[va, vb] w fun e w' => e = .returned (.bool true) ∧ Below w.heap.size w w' := by
  have := sameInts_calls w ha hb; rwa [B_true he] at this
theorem same_no {va vb : Value} {xs ys : List Int} (he : xs ≠ ys) (w : World) (ha : SV w 1 encI va xs) (hb : SV w 1 encI vb ys) : Calls Try.prog 21 #[va, vb] w fun e w' => e = .returned (.bool false) ∧ Below w.heap.size w w' := by
  have := sameInts_calls w ha hb; rwa [B_false he] at this
theorem LL.two {α : Type} {E : TypeId} {k : Nat} {enc : α → List Value} {ss : List SD} {x y : List α} {M : List Ent} (h : LL E k enc ss [x, y] M) : ∃ a1 c1 a2 c2 N1 N2, ss = [(a1, x.length, c1), (a2, y.length, c2)] ∧ M = N1 ++ N2 ∧ OW E k enc (.slice a1 x.length c1) x N1 ∧ OW E k enc (.slice a2 y.length c2) y N2 := by
  cases h with
  | cons h1 h2 =>
    cases h2 with
    | cons h3 h4 =>
      cases h4
      rename_i s1 N1 s2 N2
      obtain ⟨a1, n1, c1⟩ := s1
      obtain ⟨a2, n2, c2⟩ := s2
      obtain ⟨_, _, e1, _⟩ := h1.open
      cases e1
      obtain ⟨_, _, e2, _⟩ := h3.open
      cases e2
      exact ⟨a1, c1, a2, c2, N1, N2, rfl, by simp, h1, h3⟩
/-- A row of the call's own with something in it. -/
theorem OW.some {α : Type} {E : TypeId} {k : Nat} {enc : α → List Value} {a : Option Addr} {n cap : Nat} {xs : List α} {N : List Ent} (h : OW E k enc (.slice a n cap) xs N) (h0 : 0 < n) : ∃ b s, a = some ⟨b, 0, none⟩ ∧ N = [⟨b, Ce (xs.flatMap enc ++ s) E, true⟩] := by
  obtain ⟨_, _, e, _, hop⟩ := h.open
  cases e
  obtain ⟨b, s, h1, h2, _⟩ := hop h0
  exact ⟨b, s, h1, h2⟩
def exP : Seq.Plan := ⟨[5, 5], [⟨5, 2, 0, 0⟩, ⟨6, 2, 1, 0⟩, ⟨7, 3, 0, 1⟩], [5, 2], [4, 3]⟩
theorem ex_make : Seq.makeF [⟨5, 2⟩, ⟨6, 2⟩, ⟨7, 3⟩] [5, 5] = (exP, 0) := by decide +kernel
theorem ex_check : Seq.checkF exP = (0, 0) := by decide +kernel
end Go.Proofs.Yteilhjglohahoaa
