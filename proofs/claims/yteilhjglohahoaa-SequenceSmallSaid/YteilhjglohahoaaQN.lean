/- The reference's Sort: plain laws, no program in sight. -/
import Derived.Test.YteilhjglohahoaaQM
set_option linter.unusedSimpArgs false
set_option linter.unusedVariables false
namespace Go.Sx.Seq
/-- Lists that stand at increasing numbers, told number by number. -/
theorem flat_numbers {α β : Type} (g : α → Nat) (G : Nat → List β) (H : α → List β) : ∀ (len a : Nat) (T : List α), T.Pairwise (fun s t => g s < g t) → (∀ s ∈ T, a ≤ g s ∧ g s < a + len) →
    (∀ s ∈ T, G (g s) = H s) → (∀ f, a ≤ f → (∀ s ∈ T, g s ≠ f) → G f = []) → (List.range' a len).flatMap G = T.flatMap H
  | 0, a, T, hp, hr, hG, h0 => by
    cases T with
    | nil => rfl
    | cons s T => have := hr s List.mem_cons_self; omega
  | len + 1, a, T, hp, hr, hG, h0 => by
    rw [List.range'_succ, List.flatMap_cons]
    cases T with
    | nil =>
      rw [h0 a (Nat.le_refl _) (fun s h => by cases h)]
      exact flat_numbers g G H len (a + 1) [] hp (fun s h => by cases h) (fun s h => by cases h) (fun f hf h => h0 f (by omega) h)
    | cons s T =>
      have hp' := List.pairwise_cons.1 hp
      by_cases e : g s = a
      · rw [List.flatMap_cons, ← e, hG s List.mem_cons_self]
        congr 1
        rw [e]
        refine flat_numbers g G H len (a + 1) T hp'.2 (fun t ht => ?_) (fun t ht => hG t (List.mem_cons_of_mem _ ht)) (fun f hf h => h0 f (by omega) fun t ht => ?_)
        · have h1 := hp'.1 t ht
          have h2 := hr t (List.mem_cons_of_mem _ ht)
          omega
        · rcases List.mem_cons.1 ht with rfl | ht
          · omega
          · exact h t ht
      · rw [h0 a (Nat.le_refl _) fun t ht => ?_]
        · refine flat_numbers g G H len (a + 1) (s :: T) hp (fun t ht => ?_) hG (fun f hf h => h0 f (by omega) h)
          have h2 := hr t ht
          have h3 := hr s List.mem_cons_self
          rcases List.mem_cons.1 ht with rfl | ht
          · omega
          · have h1 := hp'.1 t ht
            omega
        · have h3 := hr s List.mem_cons_self
          rcases List.mem_cons.1 ht with rfl | ht
          · exact e
          · have h1 := hp'.1 t ht
            omega
theorem lexLt_irrefl {a : Seat} : ¬ lexLt a a := by unfold lexLt; omega
theorem pw_inj {l : List Seat} (h : l.Pairwise lexLt) {s t : Seat} (hs : s ∈ l) (ht : t ∈ l) (h1 : s.first = t.first) (h2 : s.second = t.second) : s = t := by
  obtain ⟨i, hi⟩ := List.getElem?_of_mem hs
  obtain ⟨j, hj⟩ := List.getElem?_of_mem ht
  obtain ⟨li, ei⟩ := List.getElem?_eq_some_iff.1 hi
  obtain ⟨lj, ej⟩ := List.getElem?_eq_some_iff.1 hj
  rcases Nat.lt_trichotomy i j with hij | hij | hij
  · have := List.pairwise_iff_getElem.1 h i j li lj hij
    rw [ei, ej] at this
    unfold lexLt at this
    omega
  · subst hij
    exact ei.symm.trans ej
  · have := List.pairwise_iff_getElem.1 h j i lj li hij
    rw [ei, ej] at this
    unfold lexLt at this
    omega
/-- A second pass, as the reference tells it: seat by seat. -/
def ofStop (items : List Int) (x : Int) : List Nat := (List.range items.length).filter fun i => items[i]? = some x
def secR (seats : List Seat) (items : List Int) (k : Nat) : List Nat := (seats.filter fun s => decide (s.second = (k : Int))).flatMap fun s => ofStop items s.stop
structure Runs (seats : List Seat) (n : Nat) (items : List Int) : Prop where
  pw : seats.Pairwise lexLt
  nd : (seats.map Seat.stop).Nodup
  rg : ∀ s ∈ seats, (0 ≤ s.first ∧ s.first < n) ∧ (0 ≤ s.second ∧ s.second < n)
  fd : ∀ x ∈ items, ∃ s, findF seats x = some s
theorem findF_mem' {seats : List Seat} {x : Int} {s : Seat} (h : findF seats x = some s) : s ∈ seats ∧ s.stop = x := by
  unfold findF at h
  exact ⟨List.mem_of_find?_eq_some h, by simpa using List.find?_some h⟩
theorem flatten_filter {α : Type} (p : α → Bool) : ∀ l : List (List α), l.flatten.filter p = (l.map fun x => x.filter p).flatten
  | [] => rfl
  | a :: l => by rw [List.flatten_cons, List.filter_append, flatten_filter p l, List.map_cons, List.flatten_cons]
theorem Runs.second {seats : List Seat} {n : Nat} {items : List Int} (h : Runs seats n items) (k : Nat) :
    (passF n (keyF seats items Seat.first) (List.range items.length)).flatten.filter (fun i => keyF seats items Seat.second i = k) = secR seats items k := by
  rw [flatten_filter]
  unfold passF secR
  rw [List.map_map]
  have e : ∀ (F : Nat → List Nat), ((List.range n).map F).flatten = (List.range' 0 n).flatMap F := fun F => by
    rw [← List.flatMap_def, List.range_eq_range']
  rw [e]
  refine flat_numbers (fun s => s.first.toNat) _ _ n 0 _ ?_ ?_ ?_ ?_
  · refine (List.Pairwise.filter _ h.pw).imp_of_mem fun {s t} hs ht hst => ?_
    have h1 := List.mem_filter.1 hs
    have h2 := List.mem_filter.1 ht
    have h3 := h.rg s h1.1
    have h4 := h.rg t h2.1
    have h5 : s.second = k := by simpa using h1.2
    have h6 : t.second = k := by simpa using h2.2
    unfold lexLt at hst
    omega
  · intro s hs
    have h3 := h.rg s (List.mem_filter.1 hs).1
    omega
  · intro s hs
    obtain ⟨hs1, hs2⟩ := List.mem_filter.1 hs
    have hs2 : s.second = k := by simpa using hs2
    have hrs := h.rg s hs1
    dsimp only [Function.comp]
    rw [List.filter_filter]
    unfold ofStop
    refine List.filter_congr fun i hi => ?_
    have hlt : i < items.length := by simpa using hi
    obtain ⟨t, ht⟩ := h.fd items[i] (List.getElem_mem hlt)
    obtain ⟨ht1, ht2⟩ := findF_mem' ht
    have hrt := h.rg t ht1
    have hix : items[i]? = some items[i] := List.getElem?_eq_getElem hlt
    rw [keyF_at hix ht, keyF_at hix ht, hix]
    by_cases hst : t = s
    · subst hst
      simp [ht2, hs2]
    · have hne : ¬ (t.second.toNat = k ∧ t.first.toNat = s.first.toNat) := fun hh => hst (pw_inj h.pw ht1 hs1 (by omega) (by omega))
      have hne2 : ¬ items[i] = s.stop := fun hh => by
        obtain ⟨j, hj⟩ := List.getElem?_of_mem hs1
        have := findF_of h.nd hj
        rw [← hh, ht] at this
        cases this
        exact hst rfl
      simp only [Option.some.injEq, hne2, decide_false]
      rw [← Bool.decide_and]
      exact decide_eq_false hne
  · intro f hf hno
    dsimp only [Function.comp]
    rw [List.filter_filter]
    refine List.filter_eq_nil_iff.2 fun i hi => ?_
    have hlt : i < items.length := by simpa using hi
    obtain ⟨t, ht⟩ := h.fd items[i] (List.getElem_mem hlt)
    obtain ⟨ht1, ht2⟩ := findF_mem' ht
    have hrt := h.rg t ht1
    have hix : items[i]? = some items[i] := List.getElem?_eq_getElem hlt
    rw [keyF_at hix ht, keyF_at hix ht]
    intro hh
    simp only [Bool.and_eq_true, decide_eq_true_eq] at hh
    exact hno t (List.mem_filter.2 ⟨ht1, by simp; omega⟩) hh.2
/-- The run, as the reference tells it. -/
theorem Runs.run {p : Plan} {items : List Int} (h : Runs p.seats p.caps.length items) :
    runF p items = ⟨(List.range p.caps.length).map fun k => (List.range items.length).filter fun i => keyF p.seats items Seat.first i = k, (List.range p.caps.length).map (secR p.seats items), ((List.range p.caps.length).map (secR p.seats items)).flatten⟩ := by
  have e : passF p.caps.length (keyF p.seats items Seat.second) (passF p.caps.length (keyF p.seats items Seat.first) (List.range items.length)).flatten = (List.range p.caps.length).map (secR p.seats items) := by
    unfold passF
    refine List.map_congr_left fun k _ => ?_
    exact h.second k
  unfold runF
  simp only [e]
  rfl
end Go.Sx.Seq
