/- The reference's Make: plain laws, no program in sight. -/
import Derived.Test.YteilhjglohahoaaQL
set_option linter.unusedSimpArgs false
set_option linter.unusedVariables false
namespace Go.Sx.Seq
theorem loadOf_zero {g : Seat → Int} {k : Nat} : ∀ {l : List Seat}, (∀ s ∈ l, (g s).toNat ≠ k) → loadOf g k l = 0
  | [], _ => rfl
  | s :: l, h => by
    have h1 := h s List.mem_cons_self
    have h2 := loadOf_zero (g := g) (k := k) (l := l) fun x hx => h x (List.mem_cons_of_mem _ hx)
    simp [loadOf, h1, h2]
theorem loadOf_cons (g : Seat → Int) (k : Nat) (s : Seat) (l : List Seat) : loadOf g k (s :: l) = (if (g s).toNat = k then s.vol else 0) + loadOf g k l := by
  rw [loadOf]
theorem second_load {limit : Nat} : ∀ (n : Nat) (l : List Stop) (cur held : Nat) (load : Int) (cs : List Int), l.length + cs.length ≤ n → (∀ c ∈ cs, 0 ≤ c) → ∀ (j : Nat) (c : Int), cs[j]? = some c → (j = 0 → load ≤ c) →
    loadOf Seat.second (cur + j) (alongF limit l cur held load cs) + (if j = 0 then load else 0) ≤ c
  | n, [], cur, held, load, cs, hn, hc, j, c, hj, h0 => by
    rw [along_end]
    have := hc c (List.mem_of_getElem? hj)
    by_cases h : j = 0
    · have := h0 h
      simp [loadOf, h]; omega
    · simp [loadOf, h]; omega
  | n, s :: r, cur, held, load, [], hn, hc, j, c, hj, h0 => by simp at hj
  | 0, s :: r, cur, held, load, c0 :: cs, hn, hc, j, c, hj, h0 => by simp at hn
  | n + 1, s :: r, cur, held, load, c0 :: cs, hn, hc, j, c, hj, h0 => by
    simp only [List.length_cons] at hn
    by_cases hf : held < limit ∧ load + s.vol ≤ c0
    · rw [along_put hf.1 hf.2, loadOf_cons]
      have ih := second_load (limit := limit) n r cur (held + 1) (load + s.vol) (c0 :: cs) (by simp only [List.length_cons]; omega) hc j c hj (fun h => by subst h; simp at hj; omega)
      by_cases h : j = 0
      · subst h
        simp only [Nat.add_zero, if_true, Int.toNat_natCast] at ih ⊢
        omega
      · have : ¬ (cur = cur + j) := by omega
        simp only [h, if_false, Int.toNat_natCast, this] at ih ⊢
        omega
    · rw [along_skip hf]
      cases j with
      | zero =>
        have hz : loadOf Seat.second (cur + 0) (alongF limit (s :: r) (cur + 1) 0 0 cs) = 0 := by
          refine loadOf_zero fun x hx => ?_
          have := alongF_ge _ _ _ _ _ x hx
          omega
        rw [hz]
        have := h0 rfl
        simp; omega
      | succ j =>
        have hj' : cs[j]? = some c := by simpa using hj
        have hcc := hc c (List.mem_cons_of_mem _ (List.mem_of_getElem? hj'))
        have ih := second_load (limit := limit) n (s :: r) (cur + 1) 0 0 cs (by simp only [List.length_cons]; omega) (fun c h => hc c (List.mem_cons_of_mem _ h)) j c hj' (fun _ => hcc)
        rw [show cur + 1 + j = cur + (j + 1) from by omega] at ih
        simp only [Nat.add_eq_zero_iff, Nat.one_ne_zero, and_false, if_false]
        split at ih <;> omega
theorem rule_second {limit : Nat} {l : List Stop} {caps : List Int} (hc : ∀ c ∈ caps, 0 ≤ c) {j : Nat} {c : Int} (hj : caps[j]? = some c) : loadOf Seat.second j (rule limit l caps) ≤ c := by
  have h := second_load _ l 0 0 0 caps (Nat.le_refl _) hc j c hj (fun _ => hc c (List.mem_of_getElem? hj)) (limit := limit)
  unfold rule
  rw [Nat.zero_add] at h
  split at h <;> omega
theorem rule_over {limit : Nat} {l : List Stop} {caps : List Int} (hc : ∀ c ∈ caps, 0 ≤ c) :
    overF 0 caps (loadsF Seat.first caps.length (rule limit l caps)) (loadsF Seat.second caps.length (rule limit l caps)) = none ↔ ∀ (k : Nat) (c : Int), caps[k]? = some c → loadOf Seat.first k (rule limit l caps) ≤ c := by
  rw [overF_none (loadsF_len _ _ _) (loadsF_len _ _ _)]
  constructor
  · intro h k c hk
    have hlt := (List.getElem?_eq_some_iff.1 hk).1
    exact (h k c _ _ hk (loadsF_get _ hlt _) (loadsF_get _ hlt _)).1
  · intro h k c f s hk hf hs
    have hlt := (List.getElem?_eq_some_iff.1 hk).1
    rw [loadsF_get _ hlt] at hf hs
    cases hf
    cases hs
    exact ⟨h k c hk, rule_second hc hk⟩
/-- What the reference's loop over the limits still has to try, from most on downwards. -/
def rtry (l : List Stop) (caps : List Int) (most : Nat) : Plan × Int := limits l caps (min most l.length)
theorem rtry_skip {l : List Stop} {caps : List Int} {most : Nat} (h : l.length < most + 1) : rtry l caps (most + 1) = rtry l caps most := by
  unfold rtry
  rw [show min (most + 1) l.length = min most l.length from by omega]
theorem rtry_zero {l : List Stop} {caps : List Int} : rtry l caps 0 = (.zero, 4) := by
  unfold rtry
  rw [Nat.zero_min, limits]
theorem rtry_short {l : List Stop} {caps : List Int} {most : Nat} (h : most + 1 ≤ l.length) (hr : (rule (most + 1) l caps).length ≠ l.length) : rtry l caps (most + 1) = rtry l caps most := by
  unfold rtry
  have := rule_len (most + 1) l caps
  rw [Nat.min_eq_left h, Nat.min_eq_left (by omega), limits]
  rw [if_pos (by omega)]
theorem rtry_over {l : List Stop} {caps : List Int} {most : Nat} (hc : ∀ c ∈ caps, 0 ≤ c) (h : most + 1 ≤ l.length) {k : Nat} {c : Int} (hk : caps[k]? = some c) (ho : ¬ loadOf Seat.first k (rule (most + 1) l caps) ≤ c) : rtry l caps (most + 1) = rtry l caps most := by
  unfold rtry
  rw [Nat.min_eq_left h, Nat.min_eq_left (by omega), limits]
  split
  · rfl
  · split
    · rename_i hn
      exact absurd ((rule_over hc).1 hn k c hk) ho
    · rfl
theorem rtry_fits {l : List Stop} {caps : List Int} {most : Nat} (hc : ∀ c ∈ caps, 0 ≤ c) (h : most + 1 ≤ l.length) (hr : (rule (most + 1) l caps).length = l.length) (ho : ∀ (k : Nat) (c : Int), caps[k]? = some c → loadOf Seat.first k (rule (most + 1) l caps) ≤ c) :
    rtry l caps (most + 1) = (⟨caps, rule (most + 1) l caps, loadsF Seat.first caps.length (rule (most + 1) l caps), loadsF Seat.second caps.length (rule (most + 1) l caps)⟩, 0) := by
  unfold rtry
  rw [Nat.min_eq_left h, limits]
  rw [if_neg (by omega), (rule_over hc).2 ho]
theorem makeF_try {l : List Stop} {caps : List Int} (hm : machineOk caps) (hl : l.length ≤ 1000) (hr : routeFrom [] l) (h0 : l ≠ []) : makeF l caps = rtry l caps caps.length := by
  unfold makeF rtry
  rw [if_neg (by simpa using hm), if_neg (by omega), wrongF_none.2 hr]
  dsimp only
  rw [if_neg h0]
end Go.Sx.Seq
