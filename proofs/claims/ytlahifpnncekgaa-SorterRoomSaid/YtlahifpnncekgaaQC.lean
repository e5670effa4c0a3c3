/- Stackers hold no more than their loads. Plain laws, no program in sight. -/
import Derived.Test.YtlahifpnncekgaaQB
set_option linter.unusedSimpArgs false
set_option linter.unusedVariables false
namespace Go.Sx.Seq
theorem countP_or {α : Type} (p q : α → Bool) : ∀ l : List α, (l.countP fun x => p x || q x) ≤ l.countP p + l.countP q
  | [] => by simp
  | x :: r => by
    have ih := countP_or p q r
    simp only [List.countP_cons]
    cases p x <;> cases q x <;> simp <;> omega
theorem count_seats {items : List Int} {g : Seat → Int} {k : Nat} : ∀ t : List Seat, (∀ s ∈ t, (items.count s.stop : Int) ≤ s.vol ∧ 0 ≤ s.vol) → ((items.countP fun x => t.any fun s => s.stop == x && (g s).toNat == k : Nat) : Int) ≤ loadOf g k t
  | [], _ => by simp [loadOf]
  | s :: r, h => by
    have ih := count_seats (g := g) (k := k) r fun x hx => h x (List.mem_cons_of_mem _ hx)
    obtain ⟨h1, h2⟩ := h s List.mem_cons_self
    have h3 := countP_or (fun x => s.stop == x && (g s).toNat == k) (fun x => r.any fun s => s.stop == x && (g s).toNat == k) items
    simp only [List.any_cons]
    rw [loadOf]
    by_cases e : (g s).toNat = k
    · have h4 : (items.countP fun x => s.stop == x && (g s).toNat == k) = items.count s.stop := by
        rw [List.count]
        apply List.countP_congr
        intro x _
        have e' : ((g s).toNat == k) = true := by simpa using e
        rw [e', Bool.and_true, beq_iff_eq, beq_iff_eq]
        exact eq_comm
      rw [if_pos e]
      omega
    · have h4 : (items.countP fun x => s.stop == x && (g s).toNat == k) = 0 := by
        rw [List.countP_eq_zero]
        intro x _
        simp [e]
      rw [if_neg e]
      omega
theorem range_map_get (l : List Int) : (List.range l.length).map (fun i => l[i]?) = l.map some := by
  apply List.ext_getElem?
  intro i
  by_cases h : i < l.length
  · simp [h]
  · rw [List.getElem?_eq_none (by simpa using h), List.getElem?_eq_none (by simpa using h)]
theorem passF_at {n k : Nat} (key : Nat → Nat) (l : List Nat) (h : k < n) : (passF n key l)[k]? = some (l.filter fun i => key i = k) := by simp [passF, h]
theorem Good.load {l : List Stop} {caps : List Int} {p : Plan} (h : Good l caps p) (hr : routeFrom [] l) {items : List Int} (hw : Within l items) (g : Seat → Int) {l' : List Nat} (hp : l'.Perm (List.range items.length)) (k : Nat) :
    ((l'.filter fun i => keyF p.seats items g i = k).length : Int) ≤ loadOf g k p.seats := by
  rw [(hp.filter _).length_eq]
  have hvol : ∀ s ∈ p.seats, (items.count s.stop : Int) ≤ s.vol ∧ 0 ≤ s.vol := fun s hs => by
    obtain ⟨j, hj⟩ := List.getElem?_of_mem hs
    have hlj : l[j]? = some s.asStop := by rw [← h.stops]; simp [hj]
    have h1 := hw.cnt _ (List.mem_of_getElem? hlj)
    have h2 := hr.1 _ (List.mem_of_getElem? hlj)
    unfold Stop.ok at h2
    unfold Seat.asStop at h1 h2
    simp only [] at h1 h2
    omega
  have hb := count_seats (items := items) (g := g) (k := k) p.seats hvol
  refine Int.le_trans (Int.ofNat_le.2 ?_) hb
  rw [← List.countP_eq_length_filter]
  let P : Option Int → Bool := fun o => decide (((o.bind (findF p.seats)).elim 0 g).toNat = k)
  have e1 : (List.range items.length).countP (fun i => decide (keyF p.seats items g i = k)) = ((List.range items.length).map (fun i => items[i]?)).countP P := by
    rw [List.countP_map]; rfl
  rw [e1, range_map_get, List.countP_map]
  apply List.countP_mono_left
  intro x hx hP
  obtain ⟨j, t, s, h1, h2, h3, h4, h5, h6⟩ := h.found hr hw hx
  simp only [Function.comp, P, Option.bind_some, h6, Option.elim_some, decide_eq_true_eq] at hP
  rw [List.any_eq_true]
  exact ⟨s, List.mem_of_getElem? h3, by simp [h4, hP]⟩
/-- What the stackers hold, their loads, and their capacities. -/
theorem Good.rows {l : List Stop} {caps : List Int} {p : Plan} (h : Good l caps p) (hr : routeFrom [] l) {items : List Int} (hw : Within l items) {k : Nat} (hk : k < caps.length) : ∃ r1 r2 f1 f2 c, (runF p items).first[k]? = some r1 ∧ (runF p items).second[k]? = some r2 ∧ p.first[k]? = some f1 ∧ p.second[k]? = some f2 ∧ caps[k]? = some c ∧
    (r1.length : Int) ≤ f1 ∧ (r2.length : Int) ≤ f2 ∧ f1 ≤ c ∧ f2 ≤ c := by
  have hp := h.perms hr hw
  have hlen : k < p.caps.length := by rw [h.caps_eq]; exact hk
  have e1 : (runF p items).first[k]? = some ((List.range items.length).filter fun i => keyF p.seats items Seat.first i = k) := by
    exact passF_at _ _ hlen
  have e2 : (runF p items).second[k]? = some ((runF p items).first.flatten.filter fun i => keyF p.seats items Seat.second i = k) := by
    exact passF_at _ _ hlen
  have e3 : p.first[k]? = some (loadOf Seat.first k p.seats) := by rw [h.first_eq]; exact loadsF_get _ hk _
  have e4 : p.second[k]? = some (loadOf Seat.second k p.seats) := by rw [h.second_eq]; exact loadsF_get _ hk _
  have e5 : caps[k]? = some caps[k] := List.getElem?_eq_getElem hk
  have ho := (overF_none (by rw [h.first_eq, loadsF_len]) (by rw [h.second_eq, loadsF_len])).1 h.over k _ _ _ e5 e3 e4
  exact ⟨_, _, _, _, _, e1, e2, e3, e4, e5, h.load hr hw _ (List.Perm.refl _) k, h.load hr hw _ hp.1 k, ho.1, ho.2⟩
end Go.Sx.Seq
