/-
  A part of the proofs of this seat: what some of the program's functions compute, shown by walks through their code. Conditions: the hypotheses that each theorem names. (Its blocks of tactics were laid by a small program.)
-/
import Derived.Test.YteilhjglohahoaaQ8
set_option linter.unusedSimpArgs false
set_option linter.unusedVariables false
namespace Go.Proofs.Yteilhjglohahoaa
open Go Go.Sx Go.RowKit
attribute [local irreducible] WL WC WQ WR St Exit.then Exit.inBlock Exit.noGoto bodyPost roundPost beginK YR RG BM Calls B AgainD MeetD
/-! ## the results, taken apart -/
def makeψ (p : Seq.Plan) (k : Int) (v : Value) (N : List Ent) : Prop := ∃ a1 c1 a2 c2 a3 c3 a4 c4 N1 N2 N3 N4, v = .tuple #[.agg #[.slice a1 p.caps.length c1, .slice a2 p.seats.length c2, .slice a3 p.first.length c3, .slice a4 p.second.length c4], .int .i64 k] ∧
  OW 3 1 encI (.slice a1 p.caps.length c1) p.caps N1 ∧ OW 60 4 encSeat (.slice a2 p.seats.length c2) p.seats N2 ∧ OW 3 1 encI (.slice a3 p.first.length c3) p.first N3 ∧ OW 3 1 encI (.slice a4 p.second.length c4) p.second N4 ∧ N = N1 ++ (N2 ++ (N3 ++ N4)) ∧
  (∀ x ∈ N1, x.own = true) ∧ (∀ x ∈ N2, x.own = true) ∧ (∀ x ∈ N3, x.own = true) ∧ ∀ x ∈ N4, x.own = true
theorem make_calls' {vs vc : Value} {l : List Seq.Stop} {caps : List Int} {p : Seq.Plan} {k : Int} (he : Seq.makeF l caps = (p, k)) (w : World) (hs : SV w 2 encStop vs l) (hc : SV w 1 encI vc caps) : Calls Try.prog 16 #[vs, vc] w fun e w' => ∃ v N, e = .returned v ∧ makeψ p k v N ∧ Rep w w' N ∧ ∀ x ∈ N, x.own = true :=
  (make_calls w hs hc).mono fun e w' ⟨v, N, h1, h2, h3, h4⟩ => by
    rw [he] at h2
    obtain ⟨pv, rfl, ⟨a1, c1, a2, c2, a3, c3, a4, c4, N1, N2, N3, N4, rfl, g1, g2, g3, g4, rfl⟩, _⟩ := h2
    exact ⟨_, _, h1, ⟨a1, c1, a2, c2, a3, c3, a4, c4, N1, N2, N3, N4, rfl, g1, g2, g3, g4, rfl, g1.own, g2.own, g3.own, g4.own⟩, h3, h4⟩
def sortψ (r : Seq.Run) (k : Int) (v : Value) (N : List Ent) : Prop := ∃ a1 c1 a2 c2 a3 c3 ss1 ss2 N1 M1 N2 M2 N3, v = .tuple #[.agg #[.slice a1 r.first.length c1, .slice a2 r.second.length c2, .slice a3 r.order.length c3], .int .i64 k] ∧
  OW 24 1 encS (.slice a1 r.first.length c1) ss1 N1 ∧ LL 3 1 encN ss1 r.first M1 ∧ OW 24 1 encS (.slice a2 r.second.length c2) ss2 N2 ∧ LL 3 1 encN ss2 r.second M2 ∧ OW 3 1 encN (.slice a3 r.order.length c3) r.order N3 ∧ N = N1 ++ (M1 ++ (N2 ++ (M2 ++ N3))) ∧
  (∀ x ∈ N1, x.own = true) ∧ (∀ x ∈ M1, x.own = true) ∧ (∀ x ∈ N2, x.own = true) ∧ (∀ x ∈ M2, x.own = true) ∧ ∀ x ∈ N3, x.own = true
theorem sort_calls' {pv iv : Value} {p : Seq.Plan} {items : List Int} {r : Seq.Run} {k : Int} (he : Seq.sortF p items = (r, k)) (w : World) (hp : PV w pv p) (hi : SV w 1 encI iv items) : Calls Try.prog 23 #[pv, iv] w fun e w' => ∃ v N, e = .returned v ∧ sortψ r k v N ∧ Rep w w' N ∧ ∀ x ∈ N, x.own = true :=
  (sort_calls w hp hi).mono fun e w' ⟨v, N, h1, h2, h3, h4⟩ => by
    rw [he] at h2
    obtain ⟨rv, rfl, ⟨a1, c1, a2, c2, a3, c3, ss1, ss2, N1, M1, N2, M2, N3, rfl, g1, g2, g3, g4, g5, rfl⟩, _⟩ := h2
    exact ⟨_, _, h1, ⟨a1, c1, a2, c2, a3, c3, ss1, ss2, N1, M1, N2, M2, N3, rfl, g1, g2, g3, g4, g5, rfl, g1.own, g2.own, g3.own, g4.own, g5.own⟩, h3, h4⟩
theorem check_calls' {pv : Value} {p : Seq.Plan} {i : Nat} {k : Int} (he : Seq.checkF p = (i, k)) (w : World) (h : PV w pv p) : Calls Try.prog 25 #[pv] w fun e w' => e = .returned (.tuple #[.int .i64 i, .int .i64 k]) ∧ Below w.heap.size w w' := by
  have := check_calls w h; rw [he] at this; exact this
/-- Numbers of items, as numbers. -/
theorem SV.nats {w : World} {v : Value} {l : List Nat} (h : SV w 1 encN v l) : SV w 1 encI v (l.map fun (i : Nat) => (i : Int)) := by
  obtain ⟨a, cap, rfl, hc, h2⟩ := h
  refine ⟨a, cap, by simp, by simpa using hc, ?_⟩
  rcases h2 with rfl | ⟨b, off, c, e, fz, h2, h3, h4⟩
  · exact .inl rfl
  · refine .inr ⟨b, off, c, e, fz, h2, h3, fun i x hx j u hj => ?_⟩
    rw [List.getElem?_map] at hx
    cases hl : l[i]? with
    | none => rw [hl] at hx; cases hx
    | some y => rw [hl] at hx; cases hx; exact h4 i y hl j u hj
theorem same_yes {va vb : Value} {xs ys : List Int} (he : xs = ys) (w : World) (ha : SV w 1 encI va xs) (hb : SV w 1 encI vb ys) : Calls Try.prog 21 #[va, vb] w fun e w' => e = .returned (.bool true) ∧ Below w.heap.size w w' := by
  have := sameInts_calls w ha hb; rwa [B_true he] at this
theorem same_no {va vb : Value} {xs ys : List Int} (he : xs ≠ ys) (w : World) (ha : SV w 1 encI va xs) (hb : SV w 1 encI vb ys) : Calls Try.prog 21 #[va, vb] w fun e w' => e = .returned (.bool false) ∧ Below w.heap.size w w' := by
  have := sameInts_calls w ha hb; rwa [B_false he] at this
theorem LL.two {α : Type} {E : TypeId} {k : Nat} {enc : α → List Value} {ss : List SD} {x y : List α} {M : List Ent} (h : LL E k enc ss [x, y] M) : ∃ a1 c1 a2 c2 N1 N2, ss = [(a1, x.length, c1), (a2, y.length, c2)] ∧ M = N1 ++ N2 ∧ OW E k enc (.slice a1 x.length c1) x N1 ∧ OW E k enc (.slice a2 y.length c2) y N2 := by
  cases h with
  | cons h1 h2 =>
    cases h2 with
    | cons h3 h4 =>
      cases h4
      rename_i s1 N1 s2 N2
      obtain ⟨a1, n1, c1⟩ := s1
      obtain ⟨a2, n2, c2⟩ := s2
      obtain ⟨_, _, e1, _⟩ := h1.open
      cases e1
      obtain ⟨_, _, e2, _⟩ := h3.open
      cases e2
      exact ⟨a1, c1, a2, c2, N1, N2, rfl, by simp, h1, h3⟩
/-- A row of the call's own with something in it. -/
theorem OW.some {α : Type} {E : TypeId} {k : Nat} {enc : α → List Value} {a : Option Addr} {n cap : Nat} {xs : List α} {N : List Ent} (h : OW E k enc (.slice a n cap) xs N) (h0 : 0 < n) : ∃ b s, a = some ⟨b, 0, none⟩ ∧ N = [⟨b, Ce (xs.flatMap enc ++ s) E, true⟩] := by
  obtain ⟨_, _, e, _, hop⟩ := h.open
  cases e
  obtain ⟨b, s, h1, h2, _⟩ := hop h0
  exact ⟨b, s, h1, h2⟩
/-! ## the examples -/
def exP : Seq.Plan := ⟨[5, 5], [⟨5, 2, 0, 0⟩, ⟨6, 2, 1, 0⟩, ⟨7, 3, 0, 1⟩], [5, 2], [4, 3]⟩
def exR : Seq.Run := ⟨[[0, 2, 3], [1, 4]], [[2, 1, 4], [0, 3]], [2, 1, 4, 0, 3]⟩
theorem ex_make : Seq.makeF [⟨5, 2⟩, ⟨6, 2⟩, ⟨7, 3⟩] [5, 5] = (exP, 0) := by decide +kernel
theorem ex_sort : Seq.sortF exP [7, 6, 5, 7, 6] = (exR, 0) := by decide +kernel
theorem ex_none : Seq.sortF exP [8] = (.zero, 6) := by decide +kernel
theorem ex_full : Seq.sortF exP [5, 5, 5] = (.zero, 4) := by decide +kernel
theorem ex_three : Seq.makeF [⟨1, 3⟩, ⟨2, 3⟩, ⟨3, 3⟩] [5, 5] = (.zero, 4) := by decide +kernel
theorem ex_five : Seq.makeF [⟨1, 1⟩, ⟨2, 1⟩, ⟨3, 1⟩, ⟨4, 1⟩, ⟨5, 1⟩] [9, 9] = (.zero, 4) := by decide +kernel
theorem ex_check : Seq.checkF exP = (0, 0) := by decide +kernel
end Go.Proofs.Yteilhjglohahoaa
