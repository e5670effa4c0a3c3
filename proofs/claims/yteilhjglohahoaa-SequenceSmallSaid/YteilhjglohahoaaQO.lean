/- SequenceSmall's route and items: plain laws, no program in sight. -/
import Derived.Test.YteilhjglohahoaaQN
set_option linter.unusedSimpArgs false
set_option linter.unusedVariables false
namespace Go.Sx.Seq
/-- The stops of some volumes. -/
def oneL (vs : List Int) : List Stop := vs.mapIdx fun i v => ⟨9 - (i : Int), v⟩
theorem oneL_len (vs : List Int) : (oneL vs).length = vs.length := by simp [oneL]
theorem oneL_get {vs : List Int} {i : Nat} {v : Int} (h : vs[i]? = some v) : (oneL vs)[i]? = some ⟨9 - (i : Int), v⟩ := by simp [oneL, h]
theorem oneL_take {vs : List Int} {i : Nat} {v : Int} (h : vs[i]? = some v) : (oneL vs).take (i + 1) = (oneL vs).take i ++ [⟨9 - (i : Int), v⟩] := by
  rw [List.take_add_one, oneL_get h]; rfl
theorem oneL_route {vs : List Int} (hl : vs.length ≤ 8) (hv : ∀ v ∈ vs, 1 ≤ v ∧ v ≤ 9) : routeFrom [] (oneL vs) := by
  refine ⟨fun s hs => ?_, ?_, by simp⟩
  · obtain ⟨i, hi⟩ := List.getElem?_of_mem hs
    have hlt := (List.getElem?_eq_some_iff.1 hi).1
    rw [oneL_len] at hlt
    have hx : vs[i]? = some vs[i] := List.getElem?_eq_getElem hlt
    rw [oneL_get hx] at hi
    cases hi
    have := hv _ (List.mem_of_getElem? hx)
    unfold Stop.ok
    dsimp only
    omega
  · refine List.pairwise_iff_getElem.2 fun i j hi hj hij e => ?_
    simp [oneL] at e
    omega
theorem oneL_vol {vs : List Int} (hv : ∀ v ∈ vs, 1 ≤ v ∧ v ≤ 9) : ∀ s ∈ oneL vs, 1 ≤ s.vol ∧ s.vol ≤ 9 := fun s hs => by
  obtain ⟨i, hi⟩ := List.getElem?_of_mem hs
  have hlt := (List.getElem?_eq_some_iff.1 hi).1
  rw [oneL_len] at hlt
  have hx : vs[i]? = some vs[i] := List.getElem?_eq_getElem hlt
  rw [oneL_get hx] at hi
  cases hi
  exact hv _ (List.mem_of_getElem? hx)
/-- The items of the last stops first, each as often as its volume says. -/
def itemsR : List Stop → List Int
  | [] => []
  | s :: r => itemsR r ++ List.replicate s.vol.toNat s.id
theorem itemsR_drop {l : List Stop} {i : Nat} {s : Stop} (h : l[i]? = some s) : itemsR (l.drop i) = itemsR (l.drop (i + 1)) ++ List.replicate s.vol.toNat s.id := by
  have hlt := (List.getElem?_eq_some_iff.1 h).1
  rw [List.drop_eq_getElem_cons hlt, (List.getElem?_eq_some_iff.1 h).2]; rfl
theorem itemsR_mem : ∀ {l : List Stop} {x : Int}, x ∈ itemsR l → ∃ s ∈ l, s.id = x
  | s :: r, x, h => by
    rw [itemsR, List.mem_append] at h
    rcases h with h | h
    · obtain ⟨t, h1, h2⟩ := itemsR_mem h
      exact ⟨t, List.mem_cons_of_mem _ h1, h2⟩
    · exact ⟨s, List.mem_cons_self, (List.eq_of_mem_replicate h).symm⟩
theorem itemsR_count : ∀ {l : List Stop}, (l.map Stop.id).Nodup → ∀ t ∈ l, (itemsR l).count t.id = t.vol.toNat
  | s :: r, hn, t, ht => by
    rw [List.map_cons, List.nodup_cons] at hn
    rw [itemsR, List.count_append]
    rcases List.mem_cons.1 ht with rfl | ht
    · rw [List.count_replicate_self, List.count_eq_zero_of_not_mem, Nat.zero_add]
      intro h
      obtain ⟨u, h1, h2⟩ := itemsR_mem h
      exact hn.1 (List.mem_map.2 ⟨u, h1, h2⟩)
    · have hne : s.id ≠ t.id := fun e => hn.1 (List.mem_map.2 ⟨t, ht, e.symm⟩)
      rw [itemsR_count hn.2 t ht, List.count_replicate, if_neg (by simpa using hne), Nat.add_zero]
theorem itemsR_len {m : Nat} : ∀ {l : List Stop}, (∀ s ∈ l, s.vol ≤ m) → (itemsR l).length ≤ l.length * m
  | [], _ => by simp [itemsR]
  | s :: r, h => by
    have h1 := itemsR_len (l := r) fun x hx => h x (List.mem_cons_of_mem _ hx)
    have h2 := h s List.mem_cons_self
    rw [itemsR, List.length_append, List.length_replicate, List.length_cons, Nat.succ_mul]
    omega
theorem items_within {vs : List Int} (hl : vs.length ≤ 8) (hv : ∀ v ∈ vs, 1 ≤ v ∧ v ≤ 9) : Within (oneL vs) (itemsR (oneL vs)) := by
  have hr := oneL_route hl hv
  have hv2 := oneL_vol hv
  refine ⟨fun x hx => itemsR_mem hx, fun s hs => ?_, ?_⟩
  · rw [itemsR_count hr.2.1 s hs]
    have := hv2 s hs
    omega
  · have := itemsR_len (m := 9) (l := oneL vs) fun s hs => by have := hv2 s hs; omega
    rw [oneL_len] at this
    omega
theorem Good.runs {l : List Stop} {caps : List Int} {p : Plan} (h : Good l caps p) (hr : routeFrom [] l) {items : List Int} (hw : Within l items) : Runs p.seats caps.length items := by
  refine ⟨h.pw, h.nodup hr, h.range, fun x hx => ?_⟩
  obtain ⟨k, t, s, h1, h2, h3, h4, h5, h6⟩ := h.found hr hw hx
  exact ⟨s, h6⟩
end Go.Sx.Seq
