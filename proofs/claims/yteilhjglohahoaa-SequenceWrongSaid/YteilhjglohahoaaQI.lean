/- Plain laws of SequenceWrong: what is rejected, no program in sight. -/
import Derived.Test.YteilhjglohahoaaQH
import Derived.Test.YteilhjglohahoaaQC
set_option linter.unusedSimpArgs false
set_option linter.unusedVariables false
namespace Go.Sx.Seq
theorem makeF_caps {l : List Stop} {caps : List Int} (h : ¬ machineOk caps) : makeF l caps = (.zero, 280) := by
  unfold makeF; rw [if_pos h]
theorem makeF_many {l : List Stop} {caps : List Int} (hm : machineOk caps) (h : 1000 < l.length) : makeF l caps = (.zero, 5) := by
  unfold makeF; rw [if_neg (by simp [hm]), if_pos h]
theorem makeF_stop {l : List Stop} {caps : List Int} (hm : machineOk caps) (hl : l.length ≤ 1000) (hn : ¬ routeFrom [] l) : makeF l caps = (.zero, 281) := by
  unfold makeF
  rw [if_neg (by simp [hm]), if_neg (by omega)]
  cases h : wrongF [] 0 l with
  | none => exact absurd (wrongF_none.1 h) hn
  | some i => rfl
theorem not_machine_nil : ¬ machineOk [] := by unfold machineOk; simp
theorem not_machine_65 : ¬ machineOk (List.replicate 65 0) := by unfold machineOk; simp
theorem not_route_zero (l : List Stop) : ¬ routeFrom [] (l ++ [⟨0, 0⟩]) := fun h => by
  have := h.1 ⟨0, 0⟩ (by simp)
  unfold Stop.ok at this
  simp at this
theorem makeF_big {l : List Stop} {caps : List Int} (hm : machineOk caps) (hr : routeFrom [] l) (hl : l.length ≤ 200) (hid : ∀ s ∈ l, s.id ≤ 1000) (hc : ∀ c ∈ caps, c ≤ 256) : makeF (l ++ [⟨999999, 257⟩]) caps = (.zero, 4) := by
  have hr' : routeFrom [] (l ++ [⟨999999, 257⟩]) := by
    refine ⟨?_, ?_, by simp⟩
    · intro s hs
      rcases List.mem_append.1 hs with h | h
      · exact hr.1 s h
      · simp at h; subst h; unfold Stop.ok; decide
    · rw [List.map_append, List.nodup_append]
      refine ⟨hr.2.1, by simp, ?_⟩
      intro a ha b hb
      obtain ⟨s, hs, rfl⟩ := List.mem_map.1 ha
      have := hid s hs
      simp at hb
      omega
  rcases makeF_spec hm hr' (by simp; omega) with h | ⟨p, h, hg⟩
  · exact h
  · exfalso
    obtain ⟨s, hs, e1, e2⟩ := hg.seat (k := l.length) (t := ⟨999999, 257⟩) (by simp)
    simp only [] at e1 e2
    have hx := List.mem_of_getElem? hs
    have hrg := hg.range s hx
    obtain ⟨k, hk⟩ := Int.eq_ofNat_of_zero_le hrg.1.1
    have hkl : k < caps.length := by omega
    have q1 : p.first[k]? = some (loadOf Seat.first k p.seats) := by rw [hg.first_eq]; exact loadsF_get _ hkl _
    have q2 : p.second[k]? = some (loadOf Seat.second k p.seats) := by rw [hg.second_eq]; exact loadsF_get _ hkl _
    have hv := hg.vols hr'
    have hp := loadOf_pos (g := Seat.first) (k := k) (fun x hx => by have := hv x hx; omega) hx (by rw [hk]; simp)
    have ho := (overF_none (by rw [hg.first_eq, loadsF_len]) (by rw [hg.second_eq, loadsF_len])).1 hg.over k _ _ _ (List.getElem?_eq_getElem hkl) q1 q2
    have := hc _ (List.getElem_mem hkl)
    omega
/-! ## what is fed -/
theorem feedF_app {seats : List Seat} : ∀ (a b fed : List Int), feedF seats fed a = 0 → feedF seats fed (a ++ b) = feedF seats (fed ++ a) b
  | [], b, fed, _ => by simp
  | x :: a, b, fed, h => by
    rw [feedF] at h
    rw [List.cons_append, feedF]
    cases hs : findF seats x with
    | none => rw [hs] at h; simp at h
    | some s =>
      rw [hs] at h
      simp only [] at h ⊢
      split at h
      · simp at h
      · rename_i hh
        rw [if_neg hh, feedF_app a b _ h]
        simp
theorem feedF_full {seats : List Seat} {x : Int} {s : Seat} (hs : findF seats x = some s) (r : List Int) : ∀ (n : Nat) (fed : List Int), s.vol ≤ (fed.count x : Int) + n → feedF seats fed (List.replicate (n + 1) x ++ r) = 4
  | 0, fed, h => by
    rw [show List.replicate (0 + 1) x ++ r = x :: r from rfl, feedF, hs]
    simp only []
    rw [if_pos (by omega)]
  | n + 1, fed, h => by
    rw [List.replicate_succ, List.cons_append, feedF, hs]
    simp only []
    split
    · rfl
    · rw [feedF_full hs r n]
      simp; omega
theorem Good.err {l : List Stop} {caps : List Int} {p : Plan} (h : Good l caps p) (hm : machineOk caps) (hr : routeFrom [] l) (hl : l.length ≤ 1000) {items : List Int} {e : Int} (h1 : items.length ≤ 2000) (h2 : feedF p.seats [] items = e) (h3 : e ≠ 0) : sortF p items = (.zero, e) := by
  unfold sortF
  rw [h.check hm hr hl, if_neg (by simp), if_neg (by omega), if_pos (by rw [h2]; exact h3), h2]
theorem find_none {seats : List Seat} {x : Int} (h : ∀ s ∈ seats, s.stop ≠ x) : findF seats x = none := by
  unfold findF
  rw [List.find?_eq_none]
  intro s hs
  simpa using h s hs
theorem Good.stop_pos {l : List Stop} {caps : List Int} {p : Plan} (h : Good l caps p) (hr : routeFrom [] l) : ∀ s ∈ p.seats, 1 ≤ s.stop := fun s hs => by
  have := hr.1 s.asStop (by rw [← h.stops]; exact List.mem_map.2 ⟨s, hs, rfl⟩)
  unfold Stop.ok Seat.asStop at this
  simp only [] at this
  omega
theorem Good.sort_none {l : List Stop} {caps : List Int} {p : Plan} (h : Good l caps p) (hm : machineOk caps) (hr : routeFrom [] l) (hl : l.length ≤ 1000) {items : List Int} (hw : Within l items) (hn : items.length ≤ 1999) : sortF p (items ++ [0]) = (.zero, 6) := by
  refine h.err hm hr hl (by simp; omega) ?_ (by decide)
  rw [feedF_app _ _ _ (h.feed hr hw), feedF, find_none (fun s hs => by have := h.stop_pos hr s hs; omega)]
theorem Good.sort_full {l : List Stop} {caps : List Int} {p : Plan} (h : Good l caps p) (hm : machineOk caps) (hr : routeFrom [] l) (hl : l.length ≤ 1000) {t : Stop} (ht : l[0]? = some t) (hv : t.vol ≤ 9) :
    sortF p [t.id, t.id, t.id, t.id, t.id, t.id, t.id, t.id, t.id, t.id, 0] = (.zero, 4) := by
  refine h.err hm hr hl (by simp) ?_ (by decide)
  obtain ⟨s, hs, e1, e2⟩ := h.seat ht
  have hf := findF_of (h.nodup hr) hs
  rw [e1] at hf
  exact feedF_full hf [0] 9 [] (by simp; omega)
theorem Good.sort_many {l : List Stop} {caps : List Int} {p : Plan} (h : Good l caps p) (hm : machineOk caps) (hr : routeFrom [] l) (hl : l.length ≤ 1000) {items : List Int} (hn : 2000 < items.length) : sortF p items = (.zero, 5) := by
  unfold sortF
  rw [h.check hm hr hl, if_neg (by simp), if_pos hn]
theorem Good.sort_load {l : List Stop} {caps : List Int} {p : Plan} (h : Good l caps p) (hm : machineOk caps) (hr : routeFrom [] l) (hl : l.length ≤ 1000) (items : List Int) : sortF { p with first := [] } items = (.zero, 283) := by
  have hc : checkF { p with first := [] } = (0, 283) := by
    have h0 : p.seats.length ≤ 1000 := by rw [← h.stops] at hl; simpa using hl
    unfold checkF
    simp only [h.caps_eq]
    rw [if_neg (by simp [hm]), if_neg (by omega), h.stops, wrongF_none.2 hr]
    simp only []
    rw [misF_ok h.range h.pw (by simp)]
    have h1 : ([] : List Int).length ≠ caps.length ∨ p.second.length ≠ caps.length := .inl (by have := hm.1.1; simp only [List.length_nil]; omega)
    simp only [if_pos h1]
  unfold sortF
  rw [hc, if_pos (by simp)]
/-- The items of a route of small volumes are not many. -/
theorem sum_counts {m : Int} : ∀ (l : List Stop) (items : List Int), (∀ s ∈ l, (items.count s.id : Int) ≤ m) → ((items.countP fun x => l.any fun s => s.id == x : Nat) : Int) ≤ m * l.length
  | [], items, _ => by simp
  | s :: l, items, h => by
    have h1 := h s List.mem_cons_self
    have h2 := sum_counts l items (fun x hx => h x (List.mem_cons_of_mem _ hx))
    have h3 := countP_or (fun x => s.id == x) (fun x => l.any fun s => s.id == x) items
    have h4 : (items.countP fun x => s.id == x) = items.count s.id := by
      unfold List.count
      congr 1
      funext x
      exact Bool.eq_iff_iff.2 (by rw [beq_iff_eq, beq_iff_eq]; exact eq_comm)
    simp only [List.any_cons, List.length_cons]
    rw [show m * ((l.length + 1 : Nat) : Int) = m * l.length + m from by rw [Int.natCast_add, Int.mul_add]; simp]
    omega
theorem Within.few {l : List Stop} {items : List Int} (h : Within l items) (hl : l.length ≤ 200) (hv : ∀ s ∈ l, s.vol ≤ 9) : items.length ≤ 1800 := by
  have h1 := sum_counts (m := 9) l items (fun s hs => by have := h.cnt s hs; have := hv s hs; omega)
  have h2 : (items.countP fun x => l.any fun s => s.id == x) = items.length := by
    rw [List.countP_eq_length]
    intro x hx
    obtain ⟨s, hs, e⟩ := h.mem x hx
    exact List.any_eq_true.2 ⟨s, hs, by simp [e]⟩
  omega
theorem routeF_vol {vs : List UInt8} : ∀ s ∈ routeF vs 9, s.vol ≤ 9 ∧ s.id ≤ 1000 := fun s hs => by
  unfold routeF at hs
  obtain ⟨i, _, rfl⟩ := routeN_mem hs
  have := mod9 (x := ((vs.getD i 0).toNat : Int)) (m := 9) (by omega) (by omega)
  simp only []
  omega
end Go.Sx.Seq
