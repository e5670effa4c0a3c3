/-
  A part of the proofs of this seat: what some of the program's functions compute, shown by walks through their code. Conditions: the hypotheses that each theorem names. (Its blocks of tactics were laid by a small program.)
-/
import Derived.Test.YtcocnhfbdcapbaaN3
set_option linter.unusedSimpArgs false
set_option linter.unusedVariables false
namespace Go.Proofs.Ytcocnhfbdcapbaa
open Go Go.Sx Go.RowKit
/-! ## parts of a network: plain laws -/
structure VOk (ps : List Int) (ls : List Leg) : Prop where
  p50 : ps.length ≤ 50
  l200 : ls.length ≤ 200
  pok : PlantsOK ps
  lok : LegsOK ps ls
theorem VOk.of {ps : List Int} {ls : List Leg} (h : validF ps ls = 0) : VOk ps ls := by
  by_cases hb : 50 < ps.length ∨ 200 < ls.length
  · rw [validF_many hb] at h; exact absurd h (by decide)
  by_cases hp : PlantsOK ps
  case neg => rw [validF_plant hb hp] at h; exact absurd h (by decide)
  by_cases hl : LegsOK ps ls
  case neg => rw [validF_leg hb hp hl] at h; exact absurd h (by decide)
  exact ⟨by omega, by omega, hp, hl⟩
theorem VOk.zero {ps : List Int} {ls : List Leg} (h : VOk ps ls) : validF ps ls = 0 := validF_ok (by have := h.p50; have := h.l200; omega) h.pok h.lok
theorem VOk.turned {ps : List Int} {ls : List Leg} (h : VOk ps ls) : validF ps.reverse ls.reverse = 0 := by
  refine VOk.zero ⟨by simpa using h.p50, by simpa using h.l200, ⟨(List.reverse_perm ps).nodup_iff.2 h.pok.1, fun p hp => h.pok.2 p (by simpa using hp)⟩, ?_, fun l hl => ?_⟩
  · rw [List.map_reverse]; exact (List.reverse_perm _).nodup_iff.2 h.lok.1
  · obtain ⟨g1, g2, g3⟩ := h.lok.2 l (by simpa using hl)
    exact ⟨g1, by simpa using g2, by simpa using g3⟩
theorem VOk.plantTwice {ps : List Int} {ls : List Leg} (h : VOk ps ls) {p : Int} (hp : p ∈ ps) : validF (ps ++ [p]) ls = 320 ∨ validF (ps ++ [p]) ls = 5 ∧ 50 < (ps ++ [p]).length := by
  by_cases hb : 50 < (ps ++ [p]).length
  · exact .inr ⟨validF_many (.inl hb), hb⟩
  · refine .inl (validF_plant (by have := h.l200; omega) fun hk => ?_)
    have := hk.1
    rw [List.nodup_append] at this
    exact this.2.2 p hp p (by simp) rfl
theorem VOk.legTwice {ps : List Int} {ls : List Leg} (h : VOk ps ls) {l : Leg} (hl : l ∈ ls) : validF ps (ls ++ [l]) = 321 ∨ validF ps (ls ++ [l]) = 5 ∧ 200 < (ls ++ [l]).length := by
  by_cases hb : 200 < (ls ++ [l]).length
  · exact .inr ⟨validF_many (.inr hb), hb⟩
  · refine .inl (validF_leg (by have := h.p50; omega) h.pok fun hk => ?_)
    have := hk.1
    rw [List.map_append, List.nodup_append] at this
    exact this.2.2 l.id (List.mem_map_of_mem hl) l.id (by simp) rfl
def butP (t : Int) (ps : List Int) : List Int := ps.filter fun p => decide (p ≠ t)
theorem butP_snoc (t : Int) (ps : List Int) (p : Int) : butP t (ps ++ [p]) = butP t ps ++ (if p = t then [] else [p]) := by
  unfold butP
  rw [List.filter_append]
  congr 1
  by_cases h : p = t <;> simp [h]
theorem butP_len (t : Int) (ps : List Int) : (butP t ps).length ≤ ps.length := List.length_filter_le ..
theorem VOk.butPlant {ps : List Int} {ls : List Leg} (h : VOk ps ls) {l : Leg} (hl : l ∈ ls) : validF (butP l.to ps) ls = 321 := by
  refine validF_leg (by have := h.p50; have := h.l200; have := butP_len l.to ps; omega) ⟨List.Pairwise.filter _ h.pok.1, fun p hp => h.pok.2 p (List.mem_filter.1 hp).1⟩ fun hk => ?_
  have := (hk.2 l hl).2.2
  simp [butP] at this
theorem VOk.butLeg {ps : List Int} {ls : List Leg} (h : VOk ps ls) (k : Nat) : validF ps (ls.take k ++ ls.drop (k + 1)) = 0 := by
  have hs : (ls.take k ++ ls.drop (k + 1)).Sublist ls := by rw [← List.eraseIdx_eq_take_drop_succ]; exact List.eraseIdx_sublist ..
  refine VOk.zero ⟨h.p50, Nat.le_trans hs.length_le h.l200, h.pok, (hs.map Leg.id).nodup h.lok.1, fun l hl => h.lok.2 l (hs.mem hl)⟩
theorem VOk.find {ps : List Int} {ls : List Leg} (h : VOk ps ls) {i : Nat} {l : Leg} (hl : ls[i]? = some l) : findL ls l.id = some l := by
  refine find_take (i := i) (fun x hx he => ?_) hl rfl
  refine not_nodup (l := ls.map Leg.id) (i := i) (x := l.id) (by simp [hl]) ?_ h.lok.1
  rw [← List.map_take, ← he]
  exact List.mem_map_of_mem hx
theorem revTake {α : Type} {xs : List α} {n : Nat} {x : α} (hx : xs[n]? = some x) : (xs.drop (n + 1)).reverse ++ [x] = (xs.drop n).reverse := by
  have hlt := (List.getElem?_eq_some_iff.1 hx).1
  rw [List.drop_eq_getElem_cons hlt, (List.getElem?_eq_some_iff.1 hx).2]
  simp
end Go.Proofs.Ytcocnhfbdcapbaa
