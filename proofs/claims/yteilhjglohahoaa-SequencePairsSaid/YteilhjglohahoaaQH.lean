/- Plans of Make that were changed: what Check says of them. Plain laws, no program in sight. -/
import Derived.Test.YteilhjglohahoaaQB
set_option linter.unusedSimpArgs false
set_option linter.unusedVariables false
namespace Go.Sx.Seq
def inR (n : Nat) (s : Seat) : Prop := (0 ≤ s.first ∧ s.first < n) ∧ (0 ≤ s.second ∧ s.second < n)
def prevO (q : Option Seat) (l : List Seat) : Nat → Option Seat
  | 0 => q
  | k + 1 => l[k]?
theorem misF_at {n : Nat} : ∀ {l : List Seat} {q : Option Seat} {i k : Nat} {y : Seat}, l[k]? = some y → (∀ j s, j < k → l[j]? = some s → inR n s) → (∀ j a b, j + 1 < k → l[j]? = some a → l[j + 1]? = some b → lexLt a b) →
    (∀ a b, q = some a → 0 < k → l[0]? = some b → lexLt a b) → (¬ inR n y ∨ ∃ x, prevO q l k = some x ∧ ¬ lexLt x y) → misF n q i l = some (i + k)
  | [], _, _, _, _, h, _, _, _, _ => by simp at h
  | s :: r, q, i, 0, y, h, _, _, _, hb => by
    simp at h; subst h
    by_cases hr : inR n s
    · rcases hb with hb | ⟨x, hx, hl⟩
      · exact absurd hr hb
      · simp only [prevO] at hx; subst hx
        unfold lexLt at hl
        rw [misF_next hr, if_pos (by omega)]; rfl
    · rw [misF_in hr]; rfl
  | s :: r, q, i, k + 1, y, h, hr, hp, hq, hb => by
    have h0 : inR n s := hr 0 s (by omega) rfl
    have ih : misF n (some s) (i + 1) r = some (i + 1 + k) := by
      refine misF_at (k := k) (y := y) (by simpa using h) (fun j t hj ht => hr (j + 1) t (by omega) (by simpa using ht)) (fun j a b hj ha hb' => hp (j + 1) a b (by omega) (by simpa using ha) (by simpa using hb')) ?_ ?_
      · intro a b ha hk hb'
        cases ha
        exact hp 0 s b (by omega) rfl (by simpa using hb')
      · rcases hb with hb | ⟨x, hx, hl⟩
        · exact .inl hb
        · refine .inr ⟨x, ?_, hl⟩
          cases k with
          | zero => simpa [prevO] using hx
          | succ k => simpa [prevO] using hx
    have e : i + (k + 1) = i + 1 + k := by omega
    rw [e]
    cases q with
    | none => rw [misF_first h0]; exact ih
    | some a =>
      have := hq a s rfl (by omega) rfl
      unfold lexLt at this
      rw [misF_next h0, if_neg (by omega)]; exact ih
theorem wrongF_at : ∀ {l : List Stop} {met : List Int} {i k : Nat} {s : Stop}, l[k]? = some s → (∀ j t, j < k → l[j]? = some t → t.ok ∧ t.id ∉ met) → (∀ (j j' : Nat) (t t' : Stop), j < j' → j' < k → l[j]? = some t → l[j']? = some t' → t.id ≠ t'.id) →
    (¬ s.ok ∨ s.id ∈ met ∨ ∃ (j : Nat) (t : Stop), j < k ∧ l[j]? = some t ∧ t.id = s.id) → wrongF met i l = some (i + k)
  | [], _, _, _, _, h, _, _, _ => by simp at h
  | a :: r, met, i, 0, s, h, _, _, hb => by
    simp at h; subst h
    rw [wrongF, if_neg]
    · rfl
    · rcases hb with hb | hb | ⟨j, _, hj, _⟩
      · exact fun g => hb g.1
      · exact fun g => g.2 hb
      · omega
  | a :: r, met, i, k + 1, s, h, hok, hnd, hb => by
    have h0 := hok 0 a (by omega) rfl
    rw [wrongF, if_pos h0, wrongF_at (k := k) (s := s) (by simpa using h)]
    · congr 1; omega
    · intro j t hj ht
      have h1 := hok (j + 1) t (by omega) (by simpa using ht)
      have h2 := hnd 0 (j + 1) a t (by omega) (by omega) rfl (by simpa using ht)
      refine ⟨h1.1, ?_⟩
      simp only [List.mem_append, List.mem_singleton, not_or]
      exact ⟨h1.2, fun e => h2 e.symm⟩
    · intro j j' t t' hjj hj ht ht'
      exact hnd (j + 1) (j' + 1) t t' (by omega) (by omega) (by simpa using ht) (by simpa using ht')
    · rcases hb with hb | hb | ⟨j, t, hj, ht, e⟩
      · exact .inl hb
      · exact .inr (.inl (List.mem_append_left _ hb))
      · cases j with
        | zero => simp at ht; subst ht; exact .inr (.inl (by rw [← e]; simp))
        | succ j => exact .inr (.inr ⟨j, t, by omega, by simpa using ht, e⟩)
theorem overF_at : ∀ {caps fs ss : List Int} {i k : Nat} {c f s : Int}, caps[k]? = some c → fs[k]? = some f → ss[k]? = some s → (c < f ∨ c < s) → (∀ (j : Nat) (c f s : Int), j < k → caps[j]? = some c → fs[j]? = some f → ss[j]? = some s → f ≤ c ∧ s ≤ c) → overF i caps fs ss = some (i + k)
  | [], _, _, _, _, _, _, _, h, _, _, _, _ => by simp at h
  | _ :: _, [], _, _, _, _, _, _, _, h, _, _, _ => by simp at h
  | _ :: _, _ :: _, [], _, _, _, _, _, _, _, h, _, _ => by simp at h
  | c :: cs, f :: fs, s :: ss, i, 0, c', f', s', h1, h2, h3, hb, _ => by
    simp at h1 h2 h3; subst h1; subst h2; subst h3
    rw [overF, if_pos hb]; rfl
  | c :: cs, f :: fs, s :: ss, i, k + 1, c', f', s', h1, h2, h3, hb, ho => by
    have := ho 0 c f s (by omega) rfl rfl rfl
    rw [overF, if_neg (by omega), overF_at (k := k) (c := c') (f := f') (s := s') (by simpa using h1) (by simpa using h2) (by simpa using h3) hb (fun j c f s hj a1 a2 a3 => ho (j + 1) c f s (by omega) (by simpa using a1) (by simpa using a2) (by simpa using a3))]
    congr 1; omega
theorem diffF_at : ∀ {fs ss fs' ss' : List Int} {i k : Nat} {f s f' s' : Int}, fs[k]? = some f → ss[k]? = some s → fs'[k]? = some f' → ss'[k]? = some s' → (f ≠ f' ∨ s ≠ s') → (∀ j : Nat, j < k → fs[j]? = fs'[j]? ∧ ss[j]? = ss'[j]?) → diffF i fs ss fs' ss' = some (i + k)
  | [], _, _, _, _, _, _, _, _, _, h, _, _, _, _, _ => by simp at h
  | _ :: _, [], _, _, _, _, _, _, _, _, _, h, _, _, _, _ => by simp at h
  | _ :: _, _ :: _, [], _, _, _, _, _, _, _, _, _, h, _, _, _ => by simp at h
  | _ :: _, _ :: _, _ :: _, [], _, _, _, _, _, _, _, _, _, h, _, _ => by simp at h
  | f :: fs, s :: ss, g :: gs, t :: ts, i, 0, f', s', g', t', h1, h2, h3, h4, hb, _ => by
    simp at h1 h2 h3 h4; subst h1; subst h2; subst h3; subst h4
    rw [diffF, if_pos hb]; rfl
  | f :: fs, s :: ss, g :: gs, t :: ts, i, k + 1, f', s', g', t', h1, h2, h3, h4, hb, ho => by
    have := ho 0 (by omega)
    simp at this
    rw [diffF, if_neg (by rw [this.1, this.2]; simp), diffF_at (k := k) (f := f') (s := s') (f' := g') (s' := t') (by simpa using h1) (by simpa using h2) (by simpa using h3) (by simpa using h4) hb (fun j hj => by simpa using ho (j + 1) (by omega))]
    congr 1; omega
theorem lexLt_asymm {a b : Seat} (h : lexLt a b) : ¬ lexLt b a := by unfold lexLt at *; omega
theorem Good.lt {l : List Stop} {caps : List Int} {p : Plan} (h : Good l caps p) {i j : Nat} {a b : Seat} (hij : i < j) (ha : p.seats[i]? = some a) (hb : p.seats[j]? = some b) : lexLt a b := by
  obtain ⟨b1, c1⟩ := List.getElem?_eq_some_iff.1 ha
  obtain ⟨b2, c2⟩ := List.getElem?_eq_some_iff.1 hb
  have := List.pairwise_iff_getElem.1 h.pw i j b1 b2 hij
  rwa [c1, c2] at this
/-- The seats with two of them exchanged. -/
theorem set_set_get {l : List Seat} {a b : Nat} {x y : Seat} (hab : a ≠ b) (ha : a < l.length) (hb : b < l.length) (j : Nat) : ((l.set a y).set b x)[j]? = if j = a then some y else if j = b then some x else l[j]? := by
  by_cases h1 : j = b
  · subst h1
    rw [if_neg (fun e => hab e.symm), if_pos rfl]
    simp [hb]
  · rw [List.getElem?_set_ne (fun e => h1 e.symm)]
    by_cases h2 : j = a
    · subst h2; simp [ha]
    · rw [List.getElem?_set_ne (fun e => h2 e.symm), if_neg h2, if_neg h1]
theorem swap_perm {l : List Seat} {a b : Nat} {x y : Seat} (ha : l[a]? = some x) (hb : l[b]? = some y) : ((l.set a y).set b x).Perm l := by
  obtain ⟨b1, c1⟩ := List.getElem?_eq_some_iff.1 ha
  obtain ⟨b2, c2⟩ := List.getElem?_eq_some_iff.1 hb
  have := List.set_set_perm b1 b2
  rwa [c1, c2] at this
theorem routeFrom_perm {l l' : List Stop} (hp : l'.Perm l) (h : routeFrom [] l) : routeFrom [] l' :=
  ⟨fun s hs => h.1 s (hp.mem_iff.1 hs), (hp.map Stop.id).nodup_iff.2 h.2.1, fun s hs => by simp⟩
theorem checkF_mis {p : Plan} {k : Nat} (hm : machineOk p.caps) (hl : p.seats.length ≤ 1000) (hw : routeFrom [] (p.seats.map Seat.asStop)) (hk : misF p.caps.length none 0 p.seats = some k) : checkF p = (k, 282) := by
  unfold checkF
  rw [if_neg (fun g => g hm), if_neg (by omega), wrongF_none.2 hw]
  simp only []
  rw [hk]
theorem Good.swap {l : List Stop} {caps : List Int} {p : Plan} (h : Good l caps p) (hm : machineOk caps) (hr : routeFrom [] l) (hl : l.length ≤ 1000) {a b : Nat} {x y : Seat} (hab : a ≠ b) (ha : p.seats[a]? = some x) (hb : p.seats[b]? = some y) :
    checkF { p with seats := (p.seats.set a y).set b x } = (min a b + 1, 282) := by
  have hs : p.seats.length = l.length := by rw [← h.stops]; simp
  have hal := (List.getElem?_eq_some_iff.1 ha).1
  have hbl := (List.getElem?_eq_some_iff.1 hb).1
  have hget := set_set_get (x := x) (y := y) hab hal hbl
  have hperm := swap_perm ha hb
  refine checkF_mis (p := { p with seats := (p.seats.set a y).set b x }) (by rw [h.caps_eq]; exact hm) (by simp; omega) (routeFrom_perm (hperm.map Seat.asStop) (by rw [h.stops]; exact hr)) ?_
  simp only []
  rw [h.caps_eq]
  have hrange : ∀ (j : Nat) s, p.seats[j]? = some s → inR caps.length s := fun j s hj => h.range s (List.mem_of_getElem? hj)
  -- the seats at the smaller and the greater index
  obtain ⟨m, M, u, v, hmM, e1, hmu, hMv, g1, g2, g3⟩ : ∃ (m M : Nat) (u v : Seat), m < M ∧ min a b = m ∧ p.seats[m]? = some u ∧ p.seats[M]? = some v ∧ ((p.seats.set a y).set b x)[m]? = some v ∧ ((p.seats.set a y).set b x)[M]? = some u ∧ ∀ j, j ≠ m → j ≠ M → ((p.seats.set a y).set b x)[j]? = p.seats[j]? := by
    rcases Nat.lt_or_ge a b with hlt | hge
    · refine ⟨a, b, x, y, hlt, by omega, ha, hb, by rw [hget, if_pos rfl], by rw [hget, if_neg (by omega), if_pos rfl], fun j h1 h2 => by rw [hget, if_neg h1, if_neg h2]⟩
    · refine ⟨b, a, y, x, by omega, by omega, hb, ha, by rw [hget, if_neg (by omega), if_pos rfl], by rw [hget, if_pos rfl], fun j h1 h2 => by rw [hget, if_neg h2, if_neg h1]⟩
  have hMl := (List.getElem?_eq_some_iff.1 hMv).1
  generalize hL : (p.seats.set a y).set b x = L at g1 g2 g3 hperm
  obtain ⟨t, ht, hlt⟩ : ∃ t, L[m + 1]? = some t ∧ lexLt t v := by
    by_cases hc : m + 1 = M
    · exact ⟨u, by rw [hc]; exact g2, h.lt hmM hmu hMv⟩
    · obtain ⟨t, ht⟩ : ∃ t, p.seats[m + 1]? = some t := ⟨_, List.getElem?_eq_getElem (by omega)⟩
      exact ⟨t, by rw [g3 _ (by omega) hc]; exact ht, h.lt (by omega) ht hMv⟩
  rw [e1, misF_at (k := m + 1) ht]
  · simp
  · intro j s hj hs
    by_cases hjm : j = m
    · subst hjm; rw [g1] at hs; cases hs; exact hrange M _ hMv
    · rw [g3 j hjm (by omega)] at hs; exact hrange j s hs
  · intro j c d hj hc hd
    rw [g3 j (by omega) (by omega)] at hc
    by_cases hjm : j + 1 = m
    · rw [hjm, g1] at hd; cases hd; exact h.lt (by omega) hc hMv
    · rw [g3 (j + 1) hjm (by omega)] at hd; exact h.lt (by omega) hc hd
  · intro a' b' ha'; cases ha'
  · exact .inr ⟨v, g1, lexLt_asymm hlt⟩
theorem Good.twice {l : List Stop} {caps : List Int} {p : Plan} (h : Good l caps p) (hm : machineOk caps) (hr : routeFrom [] l) (hl : l.length ≤ 1000) {a b : Nat} {x y : Seat} (hab : a ≠ b) (ha : p.seats[a]? = some x) (hb : p.seats[b]? = some y) :
    checkF { p with seats := ((p.seats.set a y).set b x).set a x } = (max a b, 281) := by
  have hs : p.seats.length = l.length := by rw [← h.stops]; simp
  have hal := (List.getElem?_eq_some_iff.1 ha).1
  have hbl := (List.getElem?_eq_some_iff.1 hb).1
  have e : ((p.seats.set a y).set b x).set a x = p.seats.set b x := by
    apply List.ext_getElem?
    intro j
    by_cases h1 : j = a
    · subst h1
      rw [List.getElem?_set_self (by simp; omega), List.getElem?_set_ne (fun e => hab e.symm), ha]
    · rw [List.getElem?_set_ne (fun e => h1 e.symm)]
      by_cases h2 : j = b
      · subst h2
        rw [List.getElem?_set_self (by simp; omega), List.getElem?_set_self (by omega)]
      · rw [List.getElem?_set_ne (fun e => h2 e.symm), List.getElem?_set_ne (fun e => h1 e.symm), List.getElem?_set_ne (fun e => h2 e.symm)]
  rw [e]
  have hget : ∀ j, j ≠ b → (p.seats.set b x)[j]? = p.seats[j]? := fun j hj => List.getElem?_set_ne (fun e => hj e.symm)
  have hgb : (p.seats.set b x)[b]? = some x := by rw [List.getElem?_set_self (by omega)]
  have hok : ∀ (j : Nat) s, p.seats[j]? = some s → s.asStop.ok := fun j s hj => hr.1 _ (by rw [← h.stops]; exact List.mem_map.2 ⟨s, List.mem_of_getElem? hj, rfl⟩)
  have hnd : ∀ (j j' : Nat) (s s' : Seat), j ≠ j' → p.seats[j]? = some s → p.seats[j']? = some s' → s.stop ≠ s'.stop := by
    intro j j' s s' hne hj hj' e
    have hn := h.nodup hr
    have e1 : (p.seats.map Seat.stop)[j]? = some s.stop := by simp [hj]
    have e2 : (p.seats.map Seat.stop)[j']? = some s'.stop := by simp [hj']
    obtain ⟨b1, c1⟩ := List.getElem?_eq_some_iff.1 e1
    obtain ⟨b2, c2⟩ := List.getElem?_eq_some_iff.1 e2
    rcases Nat.lt_or_ge j j' with hlt | hge
    · exact List.pairwise_iff_getElem.1 hn j j' b1 b2 hlt (by rw [c1, c2, e])
    · exact List.pairwise_iff_getElem.1 hn j' j b2 b1 (by omega) (by rw [c1, c2, e])
  have hw : wrongF [] 0 ((p.seats.set b x).map Seat.asStop) = some (max a b) := by
    obtain ⟨s, hs1, hs2⟩ : ∃ s : Seat, (p.seats.set b x)[max a b]? = some s ∧ s.stop = x.stop := by
      rcases Nat.lt_or_ge a b with hlt | hge
      · exact ⟨x, by rw [Nat.max_eq_right (by omega), hgb], rfl⟩
      · exact ⟨x, by rw [Nat.max_eq_left hge, hget a hab, ha], rfl⟩
    have hall : ∀ (j : Nat) t, (p.seats.set b x)[j]? = some t → t.asStop.ok := by
      intro j t ht
      by_cases hj : j = b
      · subst hj; rw [hgb] at ht; cases ht; exact hok a _ ha
      · rw [hget j hj] at ht; exact hok j t ht
    rw [wrongF_at (k := max a b) (s := s.asStop) (by rw [List.getElem?_map, hs1]; rfl)]
    · simp
    · intro j t hj ht
      rw [List.getElem?_map] at ht
      cases hq : (p.seats.set b x)[j]? with
      | none => rw [hq] at ht; cases ht
      | some t' => rw [hq] at ht; cases ht; exact ⟨hall j t' hq, by simp⟩
    · intro j j' t t' hjj hj ht ht'
      rw [List.getElem?_map] at ht ht'
      cases hq : (p.seats.set b x)[j]? with
      | none => rw [hq] at ht; cases ht
      | some u =>
      cases hq' : (p.seats.set b x)[j']? with
      | none => rw [hq'] at ht'; cases ht'
      | some u' =>
      rw [hq] at ht; rw [hq'] at ht'; cases ht; cases ht'
      show u.stop ≠ u'.stop
      by_cases h1 : j = b
      · subst h1; rw [hgb] at hq; cases hq
        rw [hget j' (by omega)] at hq'
        exact hnd a j' _ _ (by omega) ha hq'
      · rw [hget j h1] at hq
        by_cases h2 : j' = b
        · subst h2; rw [hgb] at hq'; cases hq'
          exact hnd j a _ _ (by omega) hq ha
        · rw [hget j' h2] at hq'
          exact hnd j j' _ _ (by omega) hq hq'
    · refine .inr (.inr ⟨min a b, x.asStop, by omega, ?_, hs2.symm⟩)
      rw [List.getElem?_map]
      rcases Nat.lt_or_ge a b with hlt | hge
      · rw [Nat.min_eq_left (by omega), hget a hab, ha]; rfl
      · rw [Nat.min_eq_right hge, hgb]; rfl
  unfold checkF
  simp only []
  rw [h.caps_eq, if_neg (fun g => g hm), if_neg (by simp; omega), hw]
theorem Good.back {p : Plan} {a b : Nat} {x y : Seat} (hab : a ≠ b) (ha : p.seats[a]? = some x) (hb : p.seats[b]? = some y) : ((((((p.seats.set a y).set b x).set a x).set a y).set a x).set b y) = p.seats := by
  have hal := (List.getElem?_eq_some_iff.1 ha).1
  have hbl := (List.getElem?_eq_some_iff.1 hb).1
  apply List.ext_getElem?
  intro j
  by_cases h2 : j = b
  · subst h2; rw [List.getElem?_set_self (by simp; omega), hb]
  · rw [List.getElem?_set_ne (fun e => h2 e.symm)]
    by_cases h1 : j = a
    · subst h1; rw [List.getElem?_set_self (by simp; omega), ha]
    · simp only [List.getElem?_set_ne (fun e : a = j => h1 e.symm), List.getElem?_set_ne (fun e : b = j => h2 e.symm)]
theorem Good.more {l : List Stop} {caps : List Int} {p : Plan} (h : Good l caps p) (hm : machineOk caps) (hr : routeFrom [] l) (hl : l.length ≤ 1000) {k : Nat} {z : Int} (hz : p.second[k]? = some z) : checkF { p with second := p.second.set k (z + 1) } = (k, 283) := by
  have hs : p.seats.length = l.length := by rw [← h.stops]; simp
  have hk := (List.getElem?_eq_some_iff.1 hz).1
  have n1 : p.second.length = caps.length := by rw [h.second_eq, loadsF_len]
  have n2 : p.first.length = caps.length := by rw [h.first_eq, loadsF_len]
  obtain ⟨f, hf⟩ : ∃ f, p.first[k]? = some f := ⟨_, List.getElem?_eq_getElem (by omega)⟩
  unfold checkF
  simp only []
  rw [h.caps_eq, if_neg (fun g => g hm), if_neg (by omega), h.stops, wrongF_none.2 hr]
  simp only []
  rw [misF_ok h.range h.pw (by simp)]
  simp only []
  rw [if_neg (by simp [n1, n2]), ← h.first_eq, ← h.second_eq, diffF_at (k := k) hf (List.getElem?_set_self hk) hf hz (.inr (by omega))]
  · simp
  · intro j hj
    exact ⟨rfl, List.getElem?_set_ne (by omega)⟩
theorem loadOf_pos {g : Seat → Int} {k : Nat} : ∀ {l : List Seat} {s : Seat}, (∀ x ∈ l, 0 ≤ x.vol) → s ∈ l → (g s).toNat = k → s.vol ≤ loadOf g k l
  | x :: r, s, hv, hs, e => by
    rw [loadOf]
    have h0 := hv x List.mem_cons_self
    have hr : 0 ≤ loadOf g k r := by
      clear hs
      have hv' : ∀ x ∈ r, 0 ≤ x.vol := fun x hx => hv x (List.mem_cons_of_mem _ hx)
      clear hv h0 e
      induction r with
      | nil => simp [loadOf]
      | cons y r ih =>
        rw [loadOf]
        have := hv' y List.mem_cons_self
        have := ih fun x hx => hv' x (List.mem_cons_of_mem _ hx)
        split <;> omega
    rcases List.mem_cons.1 hs with rfl | hs
    · rw [if_pos e]; omega
    · have := loadOf_pos (g := g) (k := k) (l := r) (fun x hx => hv x (List.mem_cons_of_mem _ hx)) hs e
      split <;> omega
  | [], _, _, hs, _ => by cases hs
theorem Good.vols {l : List Stop} {caps : List Int} {p : Plan} (h : Good l caps p) (hr : routeFrom [] l) : ∀ s ∈ p.seats, 1 ≤ s.vol ∧ s.vol ≤ 10000 := fun s hs => by
  have := hr.1 s.asStop (by rw [← h.stops]; exact List.mem_map.2 ⟨s, hs, rfl⟩)
  unfold Stop.ok Seat.asStop at this
  simp only [] at this
  exact this.2
/-- The load of a seat's stacker in the first pass. -/
theorem Good.firstAt {l : List Stop} {caps : List Int} {p : Plan} (h : Good l caps p) (hr : routeFrom [] l) {a k : Nat} {x : Seat} (ha : p.seats[a]? = some x) (hk : x.first = k) : ∃ f c, p.first[k]? = some f ∧ caps[k]? = some c ∧ 1 ≤ f ∧ f ≤ c := by
  have hx := List.mem_of_getElem? ha
  have hrg := h.range x hx
  have hkl : k < caps.length := by omega
  have e1 : p.first[k]? = some (loadOf Seat.first k p.seats) := by rw [h.first_eq]; exact loadsF_get _ hkl _
  have e2 : p.second[k]? = some (loadOf Seat.second k p.seats) := by rw [h.second_eq]; exact loadsF_get _ hkl _
  have hv := h.vols hr
  have := loadOf_pos (g := Seat.first) (k := k) (fun x hx => by have := hv x hx; omega) hx (by rw [hk]; simp)
  have h1 := hv x hx
  have ho := (overF_none (by rw [h.first_eq, loadsF_len]) (by rw [h.second_eq, loadsF_len])).1 h.over k _ _ _ (List.getElem?_eq_getElem hkl) e1 e2
  exact ⟨_, _, e1, List.getElem?_eq_getElem hkl, by omega, ho.1⟩
theorem Good.less {l : List Stop} {caps : List Int} {p : Plan} (h : Good l caps p) (hm : machineOk caps) (hr : routeFrom [] l) (hl : l.length ≤ 1000) {k : Nat} {f : Int} (hf : p.first[k]? = some f) (h1 : 1 ≤ f) (hfc : ∀ c, caps[k]? = some c → f ≤ c) :
    checkF { p with caps := p.caps.set k (f - 1) } = if f = 1 then (0, 280) else (k, 4) := by
  have hs : p.seats.length = l.length := by rw [← h.stops]; simp
  have n1 : p.second.length = caps.length := by rw [h.second_eq, loadsF_len]
  have n2 : p.first.length = caps.length := by rw [h.first_eq, loadsF_len]
  have hk : k < caps.length := by rw [← n2]; exact (List.getElem?_eq_some_iff.1 hf).1
  unfold checkF
  simp only []
  rw [h.caps_eq]
  by_cases hone : f = 1
  · rw [if_pos hone, if_pos]
    intro g
    have := g.2 (f - 1) (List.mem_of_getElem? (List.getElem?_set_self hk))
    omega
  · have hm' : machineOk (caps.set k (f - 1)) := by
      refine ⟨by rw [List.length_set]; exact hm.1, fun c hc => ?_⟩
      rcases List.mem_or_eq_of_mem_set hc with hc | rfl
      · exact hm.2 c hc
      · have := hm.2 _ (List.mem_of_getElem? (List.getElem?_eq_getElem hk))
        have := hfc _ (List.getElem?_eq_getElem hk)
        omega
    obtain ⟨s, hs2⟩ : ∃ s, p.second[k]? = some s := ⟨_, List.getElem?_eq_getElem (by omega)⟩
    rw [if_neg hone, if_neg (fun g => g hm'), if_neg (by omega), h.stops, wrongF_none.2 hr]
    simp only []
    rw [List.length_set, misF_ok h.range h.pw (by simp)]
    simp only []
    rw [if_neg (by omega), ← h.first_eq, ← h.second_eq, diffF_self]
    simp only []
    rw [overF_at (k := k) (List.getElem?_set_self hk) hf hs2 (.inl (by omega))]
    · simp
    · intro j c' f' s' hj hc hf' hs'
      rw [List.getElem?_set_ne (by omega)] at hc
      exact (overF_none (by rw [h.first_eq, loadsF_len]) (by rw [h.second_eq, loadsF_len])).1 h.over j _ _ _ hc hf' hs'
theorem Good.out {l : List Stop} {caps : List Int} {p : Plan} (h : Good l caps p) (hm : machineOk caps) (hr : routeFrom [] l) (hl : l.length ≤ 1000) {a : Nat} {x : Seat} (ha : p.seats[a]? = some x) :
    checkF { p with seats := p.seats.set a { x with second := caps.length } } = (a, 282) := by
  have hs : p.seats.length = l.length := by rw [← h.stops]; simp
  have hal := (List.getElem?_eq_some_iff.1 ha).1
  have e : (p.seats.set a { x with second := caps.length }).map Seat.asStop = l := by
    rw [← h.stops]
    apply List.ext_getElem?
    intro j
    rw [List.getElem?_map, List.getElem?_map]
    by_cases hj : j = a
    · subst hj; rw [List.getElem?_set_self hal, ha]; rfl
    · rw [List.getElem?_set_ne (fun e => hj e.symm)]
  refine checkF_mis (p := { p with seats := p.seats.set a { x with second := caps.length } }) (by rw [h.caps_eq]; exact hm) (by simp; omega) (by rw [e]; exact hr) ?_
  simp only []
  rw [h.caps_eq, misF_at (k := a) (List.getElem?_set_self hal)]
  · simp
  · intro j s hj hs'
    rw [List.getElem?_set_ne (by omega)] at hs'
    exact h.range s (List.mem_of_getElem? hs')
  · intro j c d hj hc hd
    rw [List.getElem?_set_ne (by omega)] at hc hd
    exact h.lt (by omega) hc hd
  · intro _ _ g; cases g
  · left
    unfold inR
    simp only []
    omega
end Go.Sx.Seq
