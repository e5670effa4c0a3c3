/- Lists of lists. No program in sight. -/
import Derived.Test.YteilhjglohahoaaSxF
namespace Go.Sx
open Go Go.RowKit
set_option linter.unusedVariables false
/-- A slice, taken apart. -/
abbrev SD := Option Addr × Nat × Nat
@[reducible] def sdV (s : SD) : Value := .slice s.1 s.2.1 s.2.2
def encS (s : SD) : List Value := [sdV s]
theorem encS_len : ∀ x, (encS x).length = 1 := fun _ => rfl
theorem encS_one : ∀ x, (encS x).all (·.oneCell') = true := fun _ => rfl
section
variable {α : Type} {E : TypeId} {k : Nat} {enc : α → List Value}
/-- Each of the slices shows its list, in a row of the call's own. -/
inductive LL (E : TypeId) (k : Nat) (enc : α → List Value) : List SD → List (List α) → List Ent → Prop
  | nil : LL E k enc [] [] []
  | cons {s : SD} {xs : List α} {N : List Ent} {ss : List SD} {xss : List (List α)} {M : List Ent} : OW E k enc (sdV s) xs N → LL E k enc ss xss M → LL E k enc (s :: ss) (xs :: xss) (N ++ M)
theorem LL.len {ss : List SD} {xss : List (List α)} {M : List Ent} (h : LL E k enc ss xss M) : ss.length = xss.length := by
  induction h with
  | nil => rfl
  | cons _ _ ih => simp [ih]
theorem LL.own {ss : List SD} {xss : List (List α)} {M : List Ent} (h : LL E k enc ss xss M) : ∀ x ∈ M, x.own = true := by
  induction h with
  | nil => simp
  | cons h1 _ ih =>
    intro x hx
    rcases List.mem_append.1 hx with hx | hx
    · exact h1.own x hx
    · exact ih x hx
theorem LL.snoc {ss : List SD} {xss : List (List α)} {M : List Ent} (h : LL E k enc ss xss M) {s : SD} {xs : List α} {N : List Ent} (hs : OW E k enc (sdV s) xs N) : LL E k enc (ss ++ [s]) (xss ++ [xs]) (M ++ N) := by
  induction h with
  | nil => simpa using LL.cons hs LL.nil
  | cons h1 _ ih => simpa [List.append_assoc] using LL.cons h1 ih
/-- One of the lists, and what it may be turned into. -/
theorem LL.at {ss : List SD} {xss : List (List α)} {M : List Ent} (h : LL E k enc ss xss M) {i : Nat} {xs : List α} (hi : xss[i]? = some xs) :
    ∃ s N M1 M2, ss[i]? = some s ∧ OW E k enc (sdV s) xs N ∧ M = M1 ++ (N ++ M2) ∧ (∀ x ∈ M1, x.own = true) ∧ (∀ x ∈ M2, x.own = true) ∧
      ∀ s' xs' N', OW E k enc (sdV s') xs' N' → LL E k enc (ss.set i s') (xss.set i xs') (M1 ++ (N' ++ M2)) := by
  induction h generalizing i with
  | nil => simp at hi
  | @cons s xs0 N ss xss M h1 h2 ih =>
    cases i with
    | zero =>
      simp at hi; subst hi
      exact ⟨s, N, [], M, rfl, h1, rfl, by simp, h2.own, fun s' xs' N' h' => (LL.cons h' h2 : LL E k enc (s' :: ss) (xs' :: xss) (N' ++ M))⟩
    | succ i =>
      obtain ⟨s1, N1, M1, M2, g1, g2, g3, g4, g5, g6⟩ := ih (by simpa using hi)
      refine ⟨s1, N1, N ++ M1, M2, by simpa using g1, g2, by rw [g3, List.append_assoc], fun x hx => ?_, g5, fun s' xs' N' h' => ?_⟩
      · rcases List.mem_append.1 hx with hx | hx
        · exact h1.own x hx
        · exact g4 x hx
      · simpa [List.append_assoc] using LL.cons h1 (g6 s' xs' N' h')
/-- The lists seen by a reader. -/
def SL (w : World) (k : Nat) (enc : α → List Value) (ss : List SD) (xss : List (List α)) : Prop := ss.length = xss.length ∧ ∀ (i : Nat) (s : SD) (xs : List α), ss[i]? = some s → xss[i]? = some xs → SV w k enc (sdV s) xs
theorem LL.sl (henc : ∀ x, (enc x).length = k) {ss : List SD} {xss : List (List α)} {M L L0 : List Ent} {w0 w : World} (h : LL E k enc ss xss M) (hr : RemL L M L0) (hw : Rep w0 w L) : SL w k enc ss xss := by
  refine ⟨h.len, fun i s xs hs hx => ?_⟩
  obtain ⟨s1, N, M1, M2, g1, g2, rfl, _⟩ := h.at hx
  rw [hs] at g1; cases g1
  refine g2.sv henc (L := L) (L0 := M1 ++ (M2 ++ L0)) ?_ hw
  refine List.Perm.trans hr ?_
  simp only [List.append_assoc]
  exact List.perm_append_comm_assoc _ _ _
theorem LL.rev {ss : List SD} {xss : List (List α)} {M : List Ent} (h : LL E k enc ss xss M) : ∃ M', M'.Perm M ∧ LL E k enc ss.reverse xss.reverse M' := by
  induction h with
  | nil => exact ⟨[], .refl _, LL.nil⟩
  | @cons s xs N ss xss M h1 _ ih =>
    obtain ⟨M', h2, h3⟩ := ih
    refine ⟨M' ++ N, (List.perm_append_comm).trans (h2.append_left N), ?_⟩
    rw [List.reverse_cons, List.reverse_cons]
    exact h3.snoc h1
end
theorem SL.keep {α : Type} {k : Nat} {enc : α → List Value} {ss : List SD} {xss : List (List α)} {w0 w : World} {L : List Ent} (h : SL w0 k enc ss xss) (hw : Rep w0 w L) (ho : AO L) : SL w k enc ss xss :=
  ⟨h.1, fun i s xs hs hx => (h.2 i s xs hs hx).keep hw ho⟩
end Go.Sx
