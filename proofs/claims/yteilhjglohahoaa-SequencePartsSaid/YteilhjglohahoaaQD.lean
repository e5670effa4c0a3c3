/- A run of some of the items is the run of all, without the others. Plain laws, no program in sight. -/
import Derived.Test.YteilhjglohahoaaQB
set_option linter.unusedSimpArgs false
set_option linter.unusedVariables false
namespace Go.Sx.Seq
/-- A pass over values. -/
def passV (n : Nat) (K : Int → Nat) (xs : List Int) : List Int := ((List.range n).map fun k => xs.filter fun x => K x = k).flatten
theorem passF_map {n : Nat} {key : Nat → Nat} {K : Int → Nat} {f : Nat → Int} {l : List Nat} (h : ∀ i ∈ l, key i = K (f i)) : (passF n key l).flatten.map f = passV n K (l.map f) := by
  unfold passF passV
  rw [List.map_flatten, List.map_map]
  congr 1
  apply List.map_congr_left
  intro k _
  simp only [Function.comp]
  rw [List.filter_map]
  congr 1
  apply List.filter_congr
  intro i hi
  simp [h i hi]
theorem passV_filter (n : Nat) (K : Int → Nat) (sel : Int → Bool) (xs : List Int) : (passV n K xs).filter sel = passV n K (xs.filter sel) := by
  unfold passV
  rw [List.filter_flatten, List.map_map]
  congr 1
  apply List.map_congr_left
  intro k _
  simp only [Function.comp]
  rw [List.filter_filter, List.filter_filter]
  apply List.filter_congr
  intro x _
  exact Bool.and_comm _ _
def itemAt (items : List Int) (i : Nat) : Int := items.getD i 0
theorem map_items (items : List Int) : (List.range items.length).map (itemAt items) = items := by
  apply List.ext_getElem?
  intro i
  by_cases h : i < items.length
  · simp [h, itemAt]
  · rw [List.getElem?_eq_none (by simpa using h), List.getElem?_eq_none (by omega)]
def keyV (seats : List Seat) (g : Seat → Int) (x : Int) : Nat := ((findF seats x).elim 0 g).toNat
theorem keyF_keyV {seats : List Seat} {items : List Int} {g : Seat → Int} {i : Nat} (h : i < items.length) : keyF seats items g i = keyV seats g (itemAt items i) := by
  unfold keyF keyV itemAt
  simp [h]
/-- The items at the end, as their stops. -/
theorem order_map (p : Plan) (items : List Int) : (runF p items).order.map (itemAt items) = passV p.caps.length (keyV p.seats Seat.second) (passV p.caps.length (keyV p.seats Seat.first) items) := by
  show (passF _ _ _).flatten.map _ = _
  rw [passF_map (K := keyV p.seats Seat.second), passF_map (K := keyV p.seats Seat.first), map_items]
  · intro i hi
    exact keyF_keyV (List.mem_range.1 hi)
  · intro i hi
    obtain ⟨r, hr, hi⟩ := List.mem_flatten.1 hi
    obtain ⟨k, _, rfl⟩ := List.mem_map.1 hr
    exact keyF_keyV (List.mem_range.1 (List.mem_filter.1 hi).1)
theorem order_part (p : Plan) (items : List Int) (sel : Int → Bool) : (runF p (items.filter sel)).order.map (itemAt (items.filter sel)) = ((runF p items).order.map (itemAt items)).filter sel := by
  rw [order_map, order_map, passV_filter, passV_filter]
theorem Within.part {l : List Stop} {items : List Int} (h : Within l items) (sel : Int → Bool) : Within l (items.filter sel) := by
  refine ⟨fun x hx => h.mem x (List.mem_filter.1 hx).1, fun s hs => ?_, ?_⟩
  · have h1 := h.cnt s hs
    have h2 : (items.filter sel).count s.id ≤ items.count s.id := List.Sublist.count_le _ List.filter_sublist
    omega
  · have := List.length_filter_le sel items
    have := h.len
    omega
theorem atF_nonneg {l : List Stop} (hr : (l.map Stop.id).Nodup) {x : Int} (h : ∃ s ∈ l, s.id = x) : 0 ≤ atF 0 l x := by
  obtain ⟨s, hs, rfl⟩ := h
  obtain ⟨k, hk⟩ := List.getElem?_of_mem hs
  rw [atF_at hr hk]; omega
end Go.Sx.Seq
