/- What the laws of chapter 28 make of their arguments: plain laws, no program in sight. -/
import Derived.Test.YteilhjglohahoaaQ0
set_option linter.unusedSimpArgs false
set_option linter.unusedVariables false
namespace Go.Sx.Seq
/-- The stops of a route of n stops. -/
def routeN (vs : List UInt8) (most : Int) (n : Nat) : List Stop := (List.range n).map fun (i : Nat) => ⟨1000 - 3 * (i : Int), 1 + ((vs.getD i 0).toNat : Int) % most⟩
theorem routeN_succ (vs : List UInt8) (most : Int) (n : Nat) : routeN vs most (n + 1) = routeN vs most n ++ [⟨1000 - 3 * (n : Int), 1 + ((vs.getD n 0).toNat : Int) % most⟩] := by simp [routeN, List.range_succ]
theorem routeN_len (vs : List UInt8) (most : Int) (n : Nat) : (routeN vs most n).length = n := by simp [routeN]
def routeF (vs : List UInt8) (most : Int) : List Stop := routeN vs most (min vs.length 200)
def capsN (vs : List UInt8) (n : Nat) : List Int := (List.range n).map fun (i : Nat) => 1 + ((vs.getD i 0).toNat : Int)
theorem capsN_succ (vs : List UInt8) (n : Nat) : capsN vs (n + 1) = capsN vs n ++ [1 + ((vs.getD n 0).toNat : Int)] := by simp [capsN, List.range_succ]
theorem capsN_len (vs : List UInt8) (n : Nat) : (capsN vs n).length = n := by simp [capsN]
def capsF (vs : List UInt8) : List Int := if vs = [] then [1] else capsN vs (min vs.length 64)
/-- One pick of an item: the items that were taken of each stop, and what was fed. -/
def feedStep (l : List Stop) (st : List Int × List Int) (v : UInt8) : List Int × List Int :=
  match l[v.toNat % l.length]? with
  | none => st
  | some s => if st.1.getD (v.toNat % l.length) 0 < s.vol then (st.1.set (v.toNat % l.length) (st.1.getD (v.toNat % l.length) 0 + 1), st.2 ++ [s.id]) else st
def feedN (l : List Stop) (vs : List UInt8) (n : Nat) : List Int × List Int := (vs.take n).foldl (feedStep l) (List.replicate l.length 0, [])
theorem feedN_succ {l : List Stop} {vs : List UInt8} {n : Nat} {v : UInt8} (h : vs[n]? = some v) : feedN l vs (n + 1) = feedStep l (feedN l vs n) v := by
  simp [feedN, List.take_add_one, h]
def feedOut (l : List Stop) (vs : List UInt8) : List Int := if l = [] then [] else (feedN l vs (min vs.length 2000)).2
def atF : Nat → List Stop → Int → Int
  | _, [], _ => -1
  | i, s :: r, id => if s.id = id then i else atF (i + 1) r id
/-! ## routes and machines are right -/
theorem mod9 {x m : Int} (h : 0 < m) (hm : m ≤ 10000) : 1 ≤ 1 + x % m ∧ 1 + x % m ≤ m := by
  have h1 := Int.emod_nonneg x (by omega : m ≠ 0)
  have h2 := Int.emod_lt_of_pos x h
  omega
theorem routeN_get {vs : List UInt8} {most : Int} {n i : Nat} (h : i < n) : (routeN vs most n)[i]? = some ⟨1000 - 3 * (i : Int), 1 + ((vs.getD i 0).toNat : Int) % most⟩ := by simp [routeN, h]
theorem routeN_mem {vs : List UInt8} {most : Int} {n : Nat} {s : Stop} (h : s ∈ routeN vs most n) : ∃ i, i < n ∧ s = ⟨1000 - 3 * (i : Int), 1 + ((vs.getD i 0).toNat : Int) % most⟩ := by
  obtain ⟨i, hi, rfl⟩ := List.mem_map.1 h
  exact ⟨i, List.mem_range.1 hi, rfl⟩
theorem routeN_ids (vs : List UInt8) (most : Int) (n : Nat) : ((routeN vs most n).map Stop.id).Nodup := by
  rw [routeN, List.map_map]
  refine List.pairwise_map.2 (List.Pairwise.imp ?_ (List.nodup_range (n := n)))
  intro a b hab e
  simp only [Function.comp] at e
  omega
theorem routeN_route {vs : List UInt8} {most : Int} (h0 : 0 < most) (hm : most ≤ 10000) {n : Nat} (hn : n ≤ 200) : routeFrom [] (routeN vs most n) := by
  refine ⟨fun s hs => ?_, routeN_ids vs most n, fun s hs => by simp⟩
  obtain ⟨i, hi, rfl⟩ := routeN_mem hs
  have := mod9 (x := ((vs.getD i 0).toNat : Int)) h0 hm
  unfold Stop.ok
  simp only []
  omega
theorem capsF_ok (vs : List UInt8) : machineOk (capsF vs) := by
  unfold capsF
  split
  · exact ⟨by simp, by simp⟩
  · rename_i h
    have hl : 0 < vs.length := List.length_pos_iff.2 h
    refine ⟨by rw [capsN_len]; omega, fun c hc => ?_⟩
    obtain ⟨i, _, rfl⟩ := List.mem_map.1 hc
    have := UInt8.toNat_lt (vs.getD i 0)
    omega
theorem capsF_max (vs : List UInt8) : ∀ c ∈ capsF vs, c ≤ 256 := by
  intro c hc
  unfold capsF at hc
  split at hc
  · simp at hc; omega
  · obtain ⟨i, _, rfl⟩ := List.mem_map.1 hc
    have := UInt8.toNat_lt (vs.getD i 0)
    omega
theorem capsF_len (vs : List UInt8) : 1 ≤ (capsF vs).length ∧ (capsF vs).length ≤ 64 := (capsF_ok vs).1
theorem routeF_len (vs : List UInt8) (most : Int) : (routeF vs most).length ≤ 200 := by unfold routeF; rw [routeN_len]; omega
theorem routeF_route {vs : List UInt8} {most : Int} (h0 : 0 < most) (hm : most ≤ 10000) : routeFrom [] (routeF vs most) := routeN_route h0 hm (by omega)
/-! ## items within the volumes -/
/-- What has been fed: items of the route, none of a stop more than its volume. -/
structure FedOK (l : List Stop) (left out : List Int) : Prop where
  len : left.length = l.length
  mem : ∀ x ∈ out, ∃ s ∈ l, s.id = x
  cnt : ∀ (k : Nat) (s : Stop), l[k]? = some s → left[k]? = some (out.count s.id : Int) ∧ out.count s.id ≤ s.vol
theorem FedOK.nil {l : List Stop} (hr : routeFrom [] l) : FedOK l (List.replicate l.length 0) [] :=
  ⟨by simp, by simp, fun k s hk => by
    have hlt := (List.getElem?_eq_some_iff.1 hk).1
    have := hr.1 s (List.mem_of_getElem? hk)
    unfold Stop.ok at this
    simp [hlt]; omega⟩
theorem ids_inj {l : List Stop} (hr : (l.map Stop.id).Nodup) {i j : Nat} {s t : Stop} (hi : l[i]? = some s) (hj : l[j]? = some t) (h : s.id = t.id) : i = j := by
  obtain ⟨b1, c1⟩ := List.getElem?_eq_some_iff.1 (show (l.map Stop.id)[i]? = some s.id by simp [hi])
  obtain ⟨b2, c2⟩ := List.getElem?_eq_some_iff.1 (show (l.map Stop.id)[j]? = some t.id by simp [hj])
  have hp := List.pairwise_iff_getElem.1 hr
  rcases Nat.lt_trichotomy i j with hl | hl | hl
  · exact absurd (by rw [c1, c2, h]) (hp i j b1 b2 hl)
  · exact hl
  · exact absurd (by rw [c1, c2, h]) (hp j i b2 b1 hl)
theorem FedOK.step {l : List Stop} (hr : routeFrom [] l) {left out : List Int} (h : FedOK l left out) (v : UInt8) : FedOK l (feedStep l (left, out) v).1 (feedStep l (left, out) v).2 := by
  unfold feedStep
  split
  · exact h
  · rename_i s hs
    split
    · rename_i hlt
      simp only [] at hlt ⊢
      obtain ⟨hc1, hc2⟩ := h.cnt _ s hs
      have hget : left.getD (v.toNat % l.length) 0 = (out.count s.id : Int) := by simp [hc1]
      rw [hget] at hlt ⊢
      refine ⟨by simpa using h.len, fun x hx => ?_, fun k t hk => ?_⟩
      · rcases List.mem_append.1 hx with hx | hx
        · exact h.mem x hx
        · simp at hx; subst hx; exact ⟨s, List.mem_of_getElem? hs, rfl⟩
      · obtain ⟨g1, g2⟩ := h.cnt k t hk
        rw [List.count_append, List.count_singleton, List.getElem?_set]
        by_cases e : v.toNat % l.length = k
        · subst e
          rw [hs] at hk; cases hk
          have hlt' := (List.getElem?_eq_some_iff.1 hs).1
          have hlt2 : v.toNat % l.length < left.length := by rw [h.len]; exact hlt'
          simp [hlt2]; omega
        · have hne : (s.id == t.id) = false := by
            have : s.id ≠ t.id := fun he => e (ids_inj hr.2.1 hs hk he)
            simpa using this
          simp [e, hne]
          exact ⟨g1, g2⟩
    · exact h
theorem feedN_ok {l : List Stop} (hr : routeFrom [] l) (vs : List UInt8) : ∀ n, FedOK l (feedN l vs n).1 (feedN l vs n).2
  | 0 => by simpa [feedN] using FedOK.nil hr
  | n + 1 => by
    cases h : vs[n]? with
    | none =>
      have : feedN l vs (n + 1) = feedN l vs n := by simp [feedN, List.take_add_one, h]
      rw [this]; exact feedN_ok hr vs n
    | some v =>
      rw [feedN_succ h]
      exact (feedN_ok hr vs n).step hr v
theorem feedN_len {l : List Stop} (vs : List UInt8) : ∀ n, (feedN l vs n).2.length ≤ n
  | 0 => by simp [feedN]
  | n + 1 => by
    have ih := feedN_len (l := l) vs n
    cases h : vs[n]? with
    | none =>
      have : feedN l vs (n + 1) = feedN l vs n := by simp [feedN, List.take_add_one, h]
      rw [this]; omega
    | some v =>
      rw [feedN_succ h]
      unfold feedStep
      split
      · omega
      · split
        · simp only [List.length_append, List.length_cons, List.length_nil]; omega
        · omega
/-- Items within the volumes. -/
structure Within (l : List Stop) (items : List Int) : Prop where
  mem : ∀ x ∈ items, ∃ s ∈ l, s.id = x
  cnt : ∀ s ∈ l, items.count s.id ≤ s.vol
  len : items.length ≤ 2000
theorem feedOut_within {l : List Stop} (hr : routeFrom [] l) (vs : List UInt8) : Within l (feedOut l vs) := by
  unfold feedOut
  split
  · rename_i h; subst h; exact ⟨by simp, by simp, by simp⟩
  · have h := feedN_ok hr vs (min vs.length 2000)
    refine ⟨h.mem, fun s hs => ?_, ?_⟩
    · obtain ⟨k, hk⟩ := List.getElem?_of_mem hs
      exact (h.cnt k s hk).2
    · have := feedN_len (l := l) vs (min vs.length 2000)
      omega
end Go.Sx.Seq
