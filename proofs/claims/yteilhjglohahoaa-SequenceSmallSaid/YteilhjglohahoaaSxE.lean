/- The slices among a law's arguments, as views of lists. -/
import Derived.Test.YteilhjglohahoaaSxA
import Derived.Test.YteilhjglohahoaaSxD
namespace Go.Sx
open Go Go.RowKit
section
variable {H : Type} {enc : TypeId × Value → H} {P : Program} {w : World} {t : TypeId} {cs : List Value}
theorem rd_slice {α : Type} {ea : α → List Value} {good : α → Prop} {e : TypeId} {k : Nat} (ht : P.underlying t = some (.slice e)) (hk : P.cellsOf e = k) (hk0 : 0 < k) (henc : ∀ x, (ea x).length = k)
    (dec : ∀ cs, Rd enc P w e cs → ∃ x, cs = ea x ∧ good x) (h : Rd enc P w t cs) : ∃ v xs, cs = [v] ∧ SV w k ea v xs ∧ ∀ x ∈ xs, good x := by
  rcases h.slice ht hk with rfl | ⟨a, len, cap, rfl, hlc, hcm, hel⟩
  · exact ⟨_, [], rfl, SV.nil, by simp⟩
  have each : ∀ i, i < cap → ∃ x, good x ∧ ∀ j u, (ea x)[j]? = some u → w.cell? ((a.add (i * k)).add j) = some u := fun i hi => by
    obtain ⟨l, h1, h2⟩ := hel i hi
    obtain ⟨_, h3⟩ := cells_get h1
    obtain ⟨x, rfl, hg⟩ := dec l h2
    exact ⟨x, hg, h3⟩
  have all : ∀ n, n ≤ cap → ∃ xs : List α, xs.length = n ∧ (∀ x ∈ xs, good x) ∧ ∀ i x, xs[i]? = some x → ∀ j u, (ea x)[j]? = some u → w.cell? ((a.add (i * k)).add j) = some u := by
    intro n
    induction n with
    | zero => exact fun _ => ⟨[], rfl, by simp, by simp⟩
    | succ n ih =>
      intro hn
      obtain ⟨xs, h1, h2, h3⟩ := ih (by omega)
      obtain ⟨x, hg, hx⟩ := each n (by omega)
      refine ⟨xs ++ [x], by simp [h1], fun y hy => ?_, fun i y hy => ?_⟩
      · rcases List.mem_append.1 hy with hy | hy
        · exact h2 y hy
        · simp at hy; subst hy; exact hg
      · by_cases hi : i < xs.length
        · rw [List.getElem?_append_left hi] at hy; exact h3 i y hy
        · rw [List.getElem?_append_right (by omega)] at hy
          have hi' : i = n := by
            have := (List.getElem?_eq_some_iff.1 hy).1
            simp at this; omega
          subst hi'
          rw [h1, Nat.sub_self] at hy
          simp at hy; subst hy; exact hx
  obtain ⟨xs, h1, h2, h3⟩ := all len hlc
  subst h1
  refine ⟨_, xs, rfl, ⟨some a, cap, rfl, ⟨hlc, ?_⟩, ?_⟩, h2⟩
  · have : maxLen = 9223372036854775807 := by decide
    omega
  · by_cases hx : xs = []
    · exact .inl hx
    · obtain ⟨x0, hx0⟩ : ∃ x, xs[0]? = some x := ⟨_, List.getElem?_eq_getElem (List.length_pos_iff.2 hx)⟩
      obtain ⟨u0, hu0⟩ : ∃ u, (ea x0)[0]? = some u := ⟨_, List.getElem?_eq_getElem (by rw [henc]; exact hk0)⟩
      have hc := h3 0 x0 hx0 0 u0 hu0
      obtain ⟨b, off, spot⟩ := a
      have hspot : spot = none ∧ ∃ c e' fz, w.heap[b]? = some (.cells c e' fz) := by
        simp only [World.cell?, Nat.zero_mul] at hc
        have hb : ((Addr.add ⟨b, off, spot⟩ 0).add 0).block = b := by unfold Addr.add; split <;> (try split) <;> simp_all
        have hs : ((Addr.add ⟨b, off, spot⟩ 0).add 0).spot = spot := by unfold Addr.add; split <;> (try split) <;> simp_all
        rw [hb, hs] at hc
        split at hc
        · rename_i c e' fz heq
          split at hc
          · cases hc
          · rename_i hsp
            exact ⟨by cases spot <;> simp_all, c, e', fz, heq⟩
        · cases hc
      obtain ⟨rfl, c, e', fz, hb⟩ := hspot
      refine .inr ⟨b, off, c, e', fz, rfl, hb, fun i x hx j u hj => ?_⟩
      have := h3 i x hx j u hj
      rw [add_none, add_none] at this
      simpa [World.cell?, hb] using this
end
end Go.Sx
