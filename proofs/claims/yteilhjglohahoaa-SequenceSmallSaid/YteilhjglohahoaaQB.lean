/- What the rule makes: plans that are right. Plain laws, no program in sight. -/
import Derived.Test.YteilhjglohahoaaQA
set_option linter.unusedSimpArgs false
set_option linter.unusedVariables false
namespace Go.Sx.Seq
def lexLt (a b : Seat) : Prop := a.second < b.second ∨ (a.second = b.second ∧ a.first < b.first)
def nextTo (a b : Seat) : Prop := (b.second = a.second ∧ b.first = a.first + 1) ∨ (a.second < b.second ∧ b.first = 0)
theorem alongF_full {limit : Nat} : ∀ (l : List Stop) (cur held : Nat) (load : Int) (cs : List Int), (alongF limit l cur held load cs).length = l.length → (alongF limit l cur held load cs).map Seat.asStop = l
  | [], _, _, _, _, _ => by simp [alongF]
  | s :: r, cur, held, load, cs, h => by
    rw [alongF] at h ⊢
    split at h
    · simp at h
    · rename_i cur' held' load' cs' hp
      simp only [List.map_cons, List.length_cons] at h ⊢
      rw [alongF_full r _ _ _ _ (by omega)]
      rfl
theorem alongF_ge {limit : Nat} : ∀ (l : List Stop) (cur held : Nat) (load : Int) (cs : List Int), ∀ x ∈ alongF limit l cur held load cs, (cur : Int) < x.second ∨ (x.second = cur ∧ (held : Int) ≤ x.first)
  | [], _, _, _, _, x, hx => by simp [alongF] at hx
  | s :: r, cur, held, load, cs, x, hx => by
    rw [alongF] at hx
    split at hx
    · cases hx
    · rename_i cur' held' load' cs' hp
      obtain ⟨_, h2, _, _, _, h5⟩ := place_spec hp
      rcases List.mem_cons.1 hx with rfl | hx
      · simp only []; omega
      · have := alongF_ge r _ _ _ _ x hx
        omega
theorem alongF_pairwise {limit : Nat} : ∀ (l : List Stop) (cur held : Nat) (load : Int) (cs : List Int), (alongF limit l cur held load cs).Pairwise lexLt
  | [], _, _, _, _ => by simp [alongF]
  | s :: r, cur, held, load, cs => by
    rw [alongF]
    split
    · exact List.Pairwise.nil
    · refine List.Pairwise.cons (fun x hx => ?_) (alongF_pairwise r _ _ _ _)
      have := alongF_ge r _ _ _ _ x hx
      unfold lexLt
      simp only []; omega
theorem alongF_head {limit : Nat} {l : List Stop} {cur held : Nat} {load : Int} {cs : List Int} {h : Seat} (hh : (alongF limit l cur held load cs)[0]? = some h) : (h.second = cur ∧ h.first = held) ∨ ((cur : Int) < h.second ∧ h.first = 0) := by
  cases l with
  | nil => simp [alongF] at hh
  | cons s r =>
    rw [alongF] at hh
    split at hh
    · cases hh
    · rename_i cur' held' load' cs' hp
      obtain ⟨_, h2, _, _, _, h5⟩ := place_spec hp
      simp at hh; subst hh
      simp only []; omega
theorem alongF_next {limit : Nat} : ∀ (l : List Stop) (cur held : Nat) (load : Int) (cs : List Int) (i : Nat) (a b : Seat), (alongF limit l cur held load cs)[i]? = some a → (alongF limit l cur held load cs)[i + 1]? = some b → nextTo a b
  | [], _, _, _, _, i, a, b, ha, _ => by simp [alongF] at ha
  | s :: r, cur, held, load, cs, i, a, b, ha, hb => by
    rw [alongF] at ha hb
    split at ha
    · cases ha
    · rename_i cur' held' load' cs' hp
      rw [hp] at hb
      simp only [List.getElem?_cons_succ] at hb
      cases i with
      | zero =>
        simp at ha; subst ha
        have := alongF_head hb
        unfold nextTo
        simp only []; omega
      | succ i =>
        simp only [List.getElem?_cons_succ] at ha
        exact alongF_next r _ _ _ _ i a b ha hb
theorem misF_ok {n : Nat} : ∀ {l : List Seat} {q : Option Seat} {i : Nat}, (∀ s ∈ l, (0 ≤ s.first ∧ s.first < n) ∧ (0 ≤ s.second ∧ s.second < n)) → l.Pairwise lexLt → (∀ a, q = some a → ∀ s ∈ l, lexLt a s) → misF n q i l = none
  | [], _, _, _, _, _ => by simp [misF]
  | s :: r, q, i, hr, hp, hq => by
    have h1 := hr s List.mem_cons_self
    have hp' := List.pairwise_cons.1 hp
    have ih : misF n (some s) (i + 1) r = none := misF_ok (fun x hx => hr x (List.mem_cons_of_mem _ hx)) hp'.2 (fun a ha x hx => by cases ha; exact hp'.1 x hx)
    cases q with
    | none => rw [misF_first h1]; exact ih
    | some a =>
      have := hq a rfl s List.mem_cons_self
      unfold lexLt at this
      rw [misF_next h1, if_neg (by omega)]; exact ih
theorem diffF_self : ∀ (fs ss : List Int) (i : Nat), diffF i fs ss fs ss = none
  | [], _, _ => by simp [diffF]
  | _ :: _, [], _ => by simp [diffF]
  | f :: fs, s :: ss, i => by
    rw [diffF, if_neg (by simp)]
    exact diffF_self fs ss (i + 1)
theorem overF_none : ∀ {caps fs ss : List Int} {i : Nat}, fs.length = caps.length → ss.length = caps.length → (overF i caps fs ss = none ↔ ∀ (k : Nat) (c f s : Int), caps[k]? = some c → fs[k]? = some f → ss[k]? = some s → f ≤ c ∧ s ≤ c)
  | [], [], [], _, _, _ => by simp [overF]
  | c :: cs, f :: fs, s :: ss, i, h1, h2 => by
    rw [overF]
    have ih := overF_none (caps := cs) (fs := fs) (ss := ss) (i := i + 1) (by simpa using h1) (by simpa using h2)
    by_cases hb : c < f ∨ c < s
    · rw [if_pos hb]
      constructor
      · intro h; cases h
      · intro h
        have := h 0 c f s rfl rfl rfl
        omega
    · rw [if_neg hb, ih]
      constructor
      · intro h k c' f' s' hc hf hs
        cases k with
        | zero => simp at hc hf hs; omega
        | succ k => exact h k c' f' s' (by simpa using hc) (by simpa using hf) (by simpa using hs)
      · intro h k c' f' s' hc hf hs
        exact h (k + 1) c' f' s' (by simpa using hc) (by simpa using hf) (by simpa using hs)
/-- A plan as Make makes it. -/
structure Good (l : List Stop) (caps : List Int) (p : Plan) : Prop where
  caps_eq : p.caps = caps
  stops : p.seats.map Seat.asStop = l
  pw : p.seats.Pairwise lexLt
  next : ∀ (i : Nat) (a b : Seat), p.seats[i]? = some a → p.seats[i + 1]? = some b → nextTo a b
  range : ∀ s ∈ p.seats, (0 ≤ s.first ∧ s.first < caps.length) ∧ (0 ≤ s.second ∧ s.second < caps.length)
  first_eq : p.first = loadsF Seat.first caps.length p.seats
  second_eq : p.second = loadsF Seat.second caps.length p.seats
  over : overF 0 caps p.first p.second = none
theorem rule_good {l : List Stop} {caps : List Int} {L : Nat} (hr : routeFrom [] l) (hL : L ≤ caps.length) (hlen : ¬ (rule L l caps).length < l.length) (ho : overF 0 caps (loadsF Seat.first caps.length (rule L l caps)) (loadsF Seat.second caps.length (rule L l caps)) = none) :
    Good l caps ⟨caps, rule L l caps, loadsF Seat.first caps.length (rule L l caps), loadsF Seat.second caps.length (rule L l caps)⟩ := by
  have h1 := rule_len L l caps
  refine ⟨rfl, alongF_full l 0 0 0 caps (by unfold rule at h1 hlen; omega), alongF_pairwise _ _ _ _ _, alongF_next _ _ _ _ _, fun s hs => ?_, rfl, rfl, ho⟩
  have := rule_range hL hr.1 s hs
  exact ⟨this.1, this.2.1⟩
theorem limits_spec {l : List Stop} {caps : List Int} (hr : routeFrom [] l) : ∀ n, n ≤ caps.length → limits l caps n = (.zero, 4) ∨ ∃ p, limits l caps n = (p, 0) ∧ Good l caps p
  | 0, _ => .inl rfl
  | n + 1, hn => by
    rw [limits]
    by_cases h1 : (rule (n + 1) l caps).length < l.length
    · rw [if_pos h1]; exact limits_spec hr n (by omega)
    · rw [if_neg h1]
      cases ho : overF 0 caps (loadsF Seat.first caps.length (rule (n + 1) l caps)) (loadsF Seat.second caps.length (rule (n + 1) l caps)) with
      | some k => exact limits_spec hr n (by omega)
      | none => exact .inr ⟨_, rfl, rule_good hr hn h1 ho⟩
theorem makeF_spec {l : List Stop} {caps : List Int} (hm : machineOk caps) (hr : routeFrom [] l) (hl : l.length ≤ 1000) : makeF l caps = (.zero, 4) ∨ ∃ p, makeF l caps = (p, 0) ∧ Good l caps p := by
  unfold makeF
  rw [if_neg (fun h => h hm), if_neg (by omega), wrongF_none.2 hr]
  simp only []
  by_cases h0 : l = []
  · rw [if_pos h0]
    subst h0
    refine .inr ⟨_, rfl, rfl, rfl, by simp, by simp, by simp, rfl, rfl, ?_⟩
    rw [overF_none (by simp) (by simp)]
    intro k c f s hc hf hs
    have hlt := (List.getElem?_eq_some_iff.1 hc).1
    simp [hlt] at hf hs
    have := hm.2 c (List.mem_of_getElem? hc)
    omega
  · rw [if_neg h0]
    exact limits_spec hr _ (by omega)
theorem Good.check {l : List Stop} {caps : List Int} {p : Plan} (h : Good l caps p) (hm : machineOk caps) (hr : routeFrom [] l) (hl : l.length ≤ 1000) : checkF p = (0, 0) := by
  have hs : p.seats.length = l.length := by rw [← h.stops]; simp
  unfold checkF
  rw [h.caps_eq, if_neg (fun g => g hm), if_neg (by omega), h.stops, wrongF_none.2 hr]
  simp only []
  rw [misF_ok h.range h.pw (by simp)]
  simp only []
  rw [if_neg (by rw [h.first_eq, h.second_eq, loadsF_len, loadsF_len]; simp), ← h.first_eq, ← h.second_eq, diffF_self]
  simp only []
  rw [h.over]
/-! ## items that are fed -/
theorem feedF_ok {seats : List Seat} : ∀ {items fed : List Int}, (∀ x ∈ items, ∃ s, findF seats x = some s ∧ ((fed ++ items).count x : Int) ≤ s.vol) → feedF seats fed items = 0
  | [], _, _ => rfl
  | x :: r, fed, h => by
    obtain ⟨s, h1, h2⟩ := h x List.mem_cons_self
    rw [feedF, h1]
    simp only []
    have hc : fed.count x < (fed ++ x :: r).count x := by rw [List.count_append, List.count_cons_self]; omega
    rw [if_neg (by omega)]
    refine feedF_ok fun y hy => ?_
    have := h y (List.mem_cons_of_mem _ hy)
    rwa [List.append_assoc, List.singleton_append]
theorem findF_of {seats : List Seat} (hnd : (seats.map Seat.stop).Nodup) {k : Nat} {s : Seat} (hk : seats[k]? = some s) : findF seats s.stop = some s := by
  unfold findF
  have hm : s ∈ seats := List.mem_of_getElem? hk
  cases hf : seats.find? (fun t => t.stop == s.stop) with
  | none =>
    have := List.find?_eq_none.1 hf s hm
    simp at this
  | some t =>
    have h1 := List.find?_some hf
    simp at h1
    obtain ⟨j, hj⟩ := List.getElem?_of_mem (List.mem_of_find?_eq_some hf)
    obtain ⟨b1, c1⟩ := List.getElem?_eq_some_iff.1 (show (seats.map Seat.stop)[j]? = some t.stop by simp [hj])
    obtain ⟨b2, c2⟩ := List.getElem?_eq_some_iff.1 (show (seats.map Seat.stop)[k]? = some s.stop by simp [hk])
    have hp := List.pairwise_iff_getElem.1 hnd
    rcases Nat.lt_trichotomy j k with hl | hl | hl
    · exact absurd (by rw [c1, c2, h1]) (hp j k b1 b2 hl)
    · subst hl; rw [hj] at hk; exact hk
    · exact absurd (by rw [c1, c2, h1]) (hp k j b2 b1 hl)
theorem Good.nodup {l : List Stop} {caps : List Int} {p : Plan} (h : Good l caps p) (hr : routeFrom [] l) : (p.seats.map Seat.stop).Nodup := by
  have := hr.2.1
  rw [← h.stops, List.map_map] at this
  exact this
theorem Good.seat {l : List Stop} {caps : List Int} {p : Plan} (h : Good l caps p) {k : Nat} {t : Stop} (hk : l[k]? = some t) : ∃ s, p.seats[k]? = some s ∧ s.stop = t.id ∧ s.vol = t.vol := by
  have := h.stops
  rw [← this, List.getElem?_map] at hk
  cases hs : p.seats[k]? with
  | none => rw [hs] at hk; cases hk
  | some s => rw [hs] at hk; cases hk; exact ⟨s, rfl, rfl, rfl⟩
theorem Good.found {l : List Stop} {caps : List Int} {p : Plan} (h : Good l caps p) (hr : routeFrom [] l) {items : List Int} (hw : Within l items) {x : Int} (hx : x ∈ items) : ∃ (k : Nat) (t : Stop) (s : Seat), l[k]? = some t ∧ t.id = x ∧ p.seats[k]? = some s ∧ s.stop = x ∧ s.vol = t.vol ∧ findF p.seats x = some s := by
  obtain ⟨t, ht, rfl⟩ := hw.mem x hx
  obtain ⟨k, hk⟩ := List.getElem?_of_mem ht
  obtain ⟨s, h1, h2, h3⟩ := h.seat hk
  exact ⟨k, t, s, hk, rfl, h1, h2, h3, by rw [← h2]; exact findF_of (h.nodup hr) h1⟩
theorem Good.feed {l : List Stop} {caps : List Int} {p : Plan} (h : Good l caps p) (hr : routeFrom [] l) {items : List Int} (hw : Within l items) : feedF p.seats [] items = 0 := by
  refine feedF_ok fun x hx => ?_
  obtain ⟨k, t, s, h1, h2, h3, h4, h5, h6⟩ := h.found hr hw hx
  refine ⟨s, h6, ?_⟩
  have := hw.cnt t (List.mem_of_getElem? h1)
  rw [h2] at this
  rw [List.nil_append, h5]; exact this
theorem Good.sort {l : List Stop} {caps : List Int} {p : Plan} (h : Good l caps p) (hm : machineOk caps) (hr : routeFrom [] l) (hl : l.length ≤ 1000) {items : List Int} (hw : Within l items) : sortF p items = (runF p items, 0) := by
  unfold sortF
  have := hw.len
  rw [h.check hm hr hl, if_neg (by simp), if_neg (by omega), if_neg (by rw [h.feed hr hw]; simp)]
/-! ## passes -/
theorem passF_succ' (n : Nat) (key : Nat → Nat) (l : List Nat) : passF (n + 1) key l = passF n key l ++ [l.filter fun i => key i = n] := by simp [passF, List.range_succ]
theorem passF_cnt (key : Nat → Nat) (l : List Nat) (a : Nat) : ∀ n, (passF n key l).flatten.count a = if key a < n then l.count a else 0
  | 0 => by simp [passF]
  | n + 1 => by
    rw [passF_succ', List.flatten_append, List.count_append, passF_cnt key l a n]
    simp only [List.flatten_cons, List.flatten_nil, List.append_nil]
    by_cases h1 : key a = n
    · rw [if_neg (by omega), if_pos (by omega), List.count_filter (by simpa using h1)]; omega
    · have h2 : (l.filter fun i => decide (key i = n)).count a = 0 := List.count_eq_zero.2 fun hm => h1 (by simpa using (List.mem_filter.1 hm).2)
      rw [h2]
      by_cases h3 : key a < n
      · rw [if_pos h3, if_pos (by omega)]; omega
      · rw [if_neg h3, if_neg (by omega)]
theorem passF_perm {n : Nat} {key : Nat → Nat} {l : List Nat} (h : ∀ i ∈ l, key i < n) : (passF n key l).flatten.Perm l := by
  rw [List.perm_iff_count]
  intro a
  rw [passF_cnt]
  split
  · rfl
  · rename_i hn
    exact (List.count_eq_zero.2 fun hm => hn (h a hm)).symm
theorem passF_pairwise {n : Nat} {key : Nat → Nat} {l : List Nat} {S : Nat → Nat → Prop} (h : l.Pairwise S) : (passF n key l).flatten.Pairwise fun i j => key i < key j ∨ (key i = key j ∧ S i j) := by
  rw [List.pairwise_flatten]
  constructor
  · intro r hr
    obtain ⟨k, _, rfl⟩ := List.mem_map.1 hr
    have h1 : (l.filter fun i => decide (key i = k)).Pairwise S := h.filter _
    refine List.Pairwise.imp_of_mem ?_ h1
    intro a b ha hb hs
    have e1 : key a = k := by simpa using (List.mem_filter.1 ha).2
    have e2 : key b = k := by simpa using (List.mem_filter.1 hb).2
    exact .inr ⟨by omega, hs⟩
  · rw [passF]
    refine List.pairwise_map.2 (List.Pairwise.imp ?_ (List.pairwise_lt_range (n := n)))
    intro a b hab x hx y hy
    have e1 : key x = a := by simpa using (List.mem_filter.1 hx).2
    have e2 : key y = b := by simpa using (List.mem_filter.1 hy).2
    exact .inl (by omega)
theorem keyF_at {seats : List Seat} {items : List Int} {g : Seat → Int} {i : Nat} {x : Int} {s : Seat} (hx : items[i]? = some x) (hs : findF seats x = some s) : keyF seats items g i = (g s).toNat := by
  unfold keyF; rw [hx]; simp [hs]
/-- The order of a run is that of the keys. -/
theorem order_sorted (p : Plan) (items : List Int) : (runF p items).order.Pairwise fun i j => keyF p.seats items Seat.second i < keyF p.seats items Seat.second j ∨ (keyF p.seats items Seat.second i = keyF p.seats items Seat.second j ∧ (keyF p.seats items Seat.first i < keyF p.seats items Seat.first j ∨ (keyF p.seats items Seat.first i = keyF p.seats items Seat.first j ∧ i < j))) := by
  show (passF _ _ _).flatten.Pairwise _
  exact passF_pairwise (passF_pairwise List.pairwise_lt_range)
theorem Good.keys {l : List Stop} {caps : List Int} {p : Plan} (h : Good l caps p) (hr : routeFrom [] l) {items : List Int} (hw : Within l items) {i : Nat} (hi : i < items.length) : ∃ (x : Int) (k : Nat) (t : Stop) (s : Seat), items[i]? = some x ∧ l[k]? = some t ∧ t.id = x ∧ p.seats[k]? = some s ∧ findF p.seats x = some s ∧
    keyF p.seats items Seat.first i = s.first.toNat ∧ keyF p.seats items Seat.second i = s.second.toNat ∧ (0 ≤ s.first ∧ s.first < caps.length) ∧ (0 ≤ s.second ∧ s.second < caps.length) := by
  have hx : items[i]? = some items[i] := List.getElem?_eq_getElem hi
  obtain ⟨k, t, s, h1, h2, h3, h4, h5, h6⟩ := h.found hr hw (List.mem_of_getElem? hx)
  have hrg := h.range s (List.mem_of_getElem? h3)
  exact ⟨_, k, t, s, hx, h1, h2, h3, h6, keyF_at hx h6, keyF_at hx h6, hrg.1, hrg.2⟩
theorem Good.perms {l : List Stop} {caps : List Int} {p : Plan} (h : Good l caps p) (hr : routeFrom [] l) {items : List Int} (hw : Within l items) : (runF p items).first.flatten.Perm (List.range items.length) ∧ (runF p items).order.Perm (List.range items.length) := by
  have h1 : (runF p items).first.flatten.Perm (List.range items.length) := by
    refine passF_perm fun i hi => ?_
    obtain ⟨x, k, t, s, g1, g2, g3, g4, g5, g6, g7, g8, g9⟩ := h.keys hr hw (List.mem_range.1 hi)
    rw [g6, h.caps_eq]; omega
  refine ⟨h1, ?_⟩
  have h2 : (runF p items).order.Perm (runF p items).first.flatten := by
    refine passF_perm fun i hi => ?_
    obtain ⟨x, k, t, s, g1, g2, g3, g4, g5, g6, g7, g8, g9⟩ := h.keys hr hw (List.mem_range.1 (h1.mem_iff.1 hi))
    rw [g7, h.caps_eq]; omega
  exact h2.trans h1
theorem atF_at : ∀ {l : List Stop} {i k : Nat} {t : Stop}, (l.map Stop.id).Nodup → l[k]? = some t → atF i l t.id = i + k
  | [], _, _, _, _, h => by simp at h
  | s :: r, i, 0, t, _, h => by
    simp at h; subst h
    rw [atF, if_pos rfl]; simp
  | s :: r, i, k + 1, t, hnd, h => by
    simp only [List.map_cons, List.nodup_cons] at hnd
    have hm : t ∈ r := List.mem_of_getElem? (by simpa using h)
    rw [atF, if_neg (fun e => hnd.1 (by rw [e]; exact List.mem_map.2 ⟨t, hm, rfl⟩)), atF_at hnd.2 (by simpa using h)]
    simp; omega
/-- Items one after the other at the end: in the order of the route, those of a stop as they were fed. -/
theorem Good.order {l : List Stop} {caps : List Int} {p : Plan} (h : Good l caps p) (hr : routeFrom [] l) {items : List Int} (hw : Within l items) {j a b : Nat} (ha : (runF p items).order[j]? = some a) (hb : (runF p items).order[j + 1]? = some b) :
    ∃ x y, items[a]? = some x ∧ items[b]? = some y ∧ (atF 0 l x < atF 0 l y ∨ (atF 0 l x = atF 0 l y ∧ a < b)) := by
  have hp := (h.perms hr hw).2
  have ha' := List.mem_range.1 (hp.mem_iff.1 (List.mem_of_getElem? ha))
  have hb' := List.mem_range.1 (hp.mem_iff.1 (List.mem_of_getElem? hb))
  obtain ⟨x, k, t, s, g1, g2, g3, g4, g5, g6, g7, g8, g9⟩ := h.keys hr hw ha'
  obtain ⟨y, k', t', s', f1, f2, f3, f4, f5, f6, f7, f8, f9⟩ := h.keys hr hw hb'
  refine ⟨x, y, g1, f1, ?_⟩
  have hsort := order_sorted p items
  obtain ⟨b1, c1⟩ := List.getElem?_eq_some_iff.1 ha
  obtain ⟨b2, c2⟩ := List.getElem?_eq_some_iff.1 hb
  have hR := List.pairwise_iff_getElem.1 hsort j (j + 1) b1 b2 (by omega)
  rw [c1, c2, g6, g7, f6, f7] at hR
  rw [← g3, ← f3, atF_at hr.2.1 g2, atF_at hr.2.1 f2]
  rcases Nat.lt_trichotomy k k' with hlt | heq | hgt
  · left; omega
  · subst heq
    rw [g4] at f4; cases f4
    right; omega
  · exfalso
    obtain ⟨d1, e1⟩ := List.getElem?_eq_some_iff.1 g4
    obtain ⟨d2, e2⟩ := List.getElem?_eq_some_iff.1 f4
    have hL := List.pairwise_iff_getElem.1 h.pw k' k d2 d1 hgt
    rw [e1, e2] at hL
    unfold lexLt at hL
    omega
end Go.Sx.Seq
