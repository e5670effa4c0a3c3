/- A part of the proofs of this seat: a small logic of walks, plain laws, and what some of the program's functions compute, shown by walks through their code. Conditions: the hypotheses that each theorem names. -/
import Derived.Test.YtkhaemjoekfhiaaZPRoutes3
import Derived.Test.YtkhaemjoekfhiaaZPRoutes9
set_option linter.unusedSimpArgs false
set_option linter.unusedVariables false
set_option linter.unusedSectionVars false
namespace Go.Sx.Srt
open Go.Sx.Seq (addAt addAt_len findF lexLt)
structure It where
  id : Int
  stop : Int
  first : Bool
  second : Bool
deriving DecidableEq
def itF (items : List It) (id : Int) : Option It := items.find? fun x => x.id == id
/-- Where an item belongs in the first pass. -/
def st1 (p : Seq.Plan) (x : It) : Int := match findF p.seats x.stop with
  | some s => if x.first = true then s.first else -1
  | none => -1
def st2 (p : Seq.Plan) (items : List It) (id : Int) : Int := match itF items id with
  | some x => if x.second = true then (match findF p.seats x.stop with
    | some s => s.second
    | none => 0) else -1
  | none => -1
def feeds1 (p : Seq.Plan) (items : List It) : List Fd := items.map fun x => ⟨x.id, st1 p x⟩
def pass1 (p : Seq.Plan) (s : Int) (items : List It) : M := playF p.caps s (feeds1 p items)
def feeds2 (p : Seq.Plan) (items : List It) (l : List Int) : List Fd := l.map fun id => ⟨id, st2 p items id⟩
def pass2 (p : Seq.Plan) (s : Int) (items : List It) : M := playF p.caps s (feeds2 p items (leaveF (pass1 p s items)))
def orderF (p : Seq.Plan) (s : Int) (items : List It) : List Int := leaveF (pass2 p s items)
/-- Whether some item is not valid, or has the ID of an earlier one. -/
def badI : List Int → List It → Bool
  | _, [] => false
  | met, x :: r => if (1 ≤ x.id ∧ x.id ≤ 999999) ∧ x.id ∉ met then badI (met ++ [x.id]) r else true
def twoE (p : Seq.Plan) (s : Int) (items : List It) : Int :=
  if (Seq.checkF p).2 ≠ 0 then (Seq.checkF p).2 else
  if s < 0 ∨ 1000 < s then 2 else
  if 2000 < items.length then 5 else
  if badI [] items = true then 292 else 0
/-- A plan that Check accepts, as far as it is used. -/
structure POk (p : Seq.Plan) : Prop where
  mach : Seq.machineOk p.caps
  nd : (p.seats.map Seq.Seat.stop).Nodup
  range : ∀ s ∈ p.seats, (0 ≤ s.first ∧ s.first < p.caps.length) ∧ (0 ≤ s.second ∧ s.second < p.caps.length)
  pw : p.seats.Pairwise lexLt
theorem Good.pok {l : List Seq.Stop} {caps : List Int} {p : Seq.Plan} (h : Seq.Good l caps p) (hm : Seq.machineOk caps) (hr : Seq.routeFrom [] l) : POk p :=
  ⟨by rw [h.caps_eq]; exact hm, h.nodup hr, by rw [h.caps_eq]; exact h.range, h.pw⟩
theorem findF_mem {l : List Seq.Seat} {x : Int} {s : Seq.Seat} (h : findF l x = some s) : s ∈ l ∧ s.stop = x := by
  unfold findF at h
  exact ⟨List.mem_of_find?_eq_some h, by simpa using List.find?_some h⟩
theorem itF_of {items : List It} (hnd : (items.map It.id).Nodup) {i : Nat} {x : It} (h : items[i]? = some x) : itF items x.id = some x := by
  unfold itF
  induction items generalizing i with
  | nil => simp at h
  | cons y r ih =>
    simp only [List.map_cons, List.nodup_cons] at hnd
    cases i with
    | zero =>
      simp at h; subst h
      simp
    | succ i =>
      simp only [List.getElem?_cons_succ] at h
      have hne : y.id ≠ x.id := fun e => hnd.1 (List.mem_map.2 ⟨x, List.mem_of_getElem? h, e.symm⟩)
      rw [List.find?_cons_of_neg (by simpa using hne)]
      exact ih hnd.2 h
theorem itF_find {items : List It} (hnd : (items.map It.id).Nodup) {x : It} (h : x ∈ items) : itF items x.id = some x := by
  obtain ⟨i, hi⟩ := List.getElem?_of_mem h
  exact itF_of hnd hi
theorem st1_lt {p : Seq.Plan} (h : POk p) (x : It) : -1 ≤ st1 p x ∧ st1 p x < p.caps.length := by
  have hm := h.mach.1
  unfold st1
  cases hf : findF p.seats x.stop with
  | none => simp only []; omega
  | some s =>
    have := h.range s (findF_mem hf).1
    simp only []
    split <;> omega
theorem st2_lt {p : Seq.Plan} (h : POk p) (items : List It) (id : Int) : -1 ≤ st2 p items id ∧ st2 p items id < p.caps.length := by
  have hm := h.mach.1
  unfold st2
  cases itF items id with
  | none => simp only []; omega
  | some x =>
    simp only []
    split
    · cases hf : findF p.seats x.stop with
      | none => simp only []; omega
      | some s =>
        have := h.range s (findF_mem hf).1
        simp only []
        omega
    · omega
theorem feeds1_lt {p : Seq.Plan} (h : POk p) (items : List It) : ∀ f ∈ feeds1 p items, f.st < p.caps.length := fun f hf => by
  obtain ⟨x, _, rfl⟩ := List.mem_map.1 hf
  exact (st1_lt h x).2
theorem feeds2_lt {p : Seq.Plan} (h : POk p) (items : List It) (l : List Int) : ∀ f ∈ feeds2 p items l, f.st < p.caps.length := fun f hf => by
  obtain ⟨x, _, rfl⟩ := List.mem_map.1 hf
  exact (st2_lt h items x).2
theorem feeds1_items (p : Seq.Plan) (items : List It) : (feeds1 p items).map Fd.item = items.map It.id := by simp [feeds1, Function.comp_def]
theorem feeds2_items (p : Seq.Plan) (items : List It) (l : List Int) : (feeds2 p items l).map Fd.item = l := by simp [feeds2, Function.comp_def]
theorem two_perm1 {p : Seq.Plan} (h : POk p) (s : Int) (items : List It) : (leaveF (pass1 p s items) ++ ((pass1 p s items).over ++ (pass1 p s items).rej)).Perm (items.map It.id) := by
  have := playF_all (s := s) (feeds1_lt h items)
  rw [feeds1_items] at this
  exact this
theorem two_perm2 {p : Seq.Plan} (h : POk p) (s : Int) (items : List It) : (orderF p s items ++ ((pass2 p s items).over ++ (pass2 p s items).rej)).Perm (leaveF (pass1 p s items)) := by
  have := playF_all (s := s) (feeds2_lt h items (leaveF (pass1 p s items)))
  rw [feeds2_items] at this
  exact this
theorem goes_sub (l : List Fd) (k : Nat) : (goes l k).Sublist (l.map Fd.item) := List.Sublist.map _ List.filter_sublist
theorem leaveF_eq (caps : List Int) (s : Int) (l : List Fd) : leaveF (playF caps s l) = ((List.range caps.length).map fun k => (playF caps s l).stackers.getD k []).flatten := by
  unfold leaveF
  conv => lhs; rw [getD_list (playF_sz caps s l).st]
/-- What is left after the first pass has a stacker there. -/
theorem leave1_mem {p : Seq.Plan} (h : POk p) (s : Int) {items : List It} (hnd : (items.map It.id).Nodup) {id : Int} (hid : id ∈ leaveF (pass1 p s items)) : ∃ x t, x ∈ items ∧ x.id = id ∧ itF items id = some x ∧ x.first = true ∧ findF p.seats x.stop = some t := by
  unfold pass1 at hid
  rw [leaveF_eq] at hid
  obtain ⟨l, hl, hm⟩ := List.mem_flatten.1 hid
  obtain ⟨k, hk, rfl⟩ := List.mem_map.1 hl
  have hg := (playF_goes _ (feeds1_lt h items) k).subset hm
  unfold goes at hg
  obtain ⟨f, hf, rfl⟩ := List.mem_map.1 hg
  obtain ⟨hf1, hf2⟩ := List.mem_filter.1 hf
  obtain ⟨x, hx, rfl⟩ := List.mem_map.1 hf1
  simp only [decide_eq_true_eq] at hf2
  refine ⟨x, ?_⟩
  unfold st1 at hf2
  cases hs : findF p.seats x.stop with
  | none => rw [hs] at hf2; simp only [] at hf2; omega
  | some t =>
    rw [hs] at hf2
    simp only [] at hf2
    split at hf2
    · rename_i hfi
      exact ⟨t, hx, rfl, itF_find hnd hx, hfi, rfl⟩
    · omega
def k1 (p : Seq.Plan) (items : List It) (id : Int) : Nat := match itF items id with
  | some x => (st1 p x).toNat
  | none => 0
def k2 (p : Seq.Plan) (items : List It) (id : Int) : Nat := (st2 p items id).toNat
def ix (items : List It) (id : Int) : Nat := items.findIdx fun x => x.id == id
theorem ix_of {items : List It} (hnd : (items.map It.id).Nodup) {i : Nat} {x : It} (h : items[i]? = some x) : ix items x.id = i := by
  unfold ix
  induction items generalizing i with
  | nil => simp at h
  | cons y r ih =>
    simp only [List.map_cons, List.nodup_cons] at hnd
    cases i with
    | zero =>
      simp at h; subst h
      simp [List.findIdx_cons]
    | succ i =>
      simp only [List.getElem?_cons_succ] at h
      have hne : y.id ≠ x.id := fun e => hnd.1 (List.mem_map.2 ⟨x, List.mem_of_getElem? h, e.symm⟩)
      have hb : (y.id == x.id) = false := by simpa using hne
      rw [List.findIdx_cons, ih hnd.2 h, hb]
      rfl
theorem ix_pw {items : List It} (hnd : (items.map It.id).Nodup) : (items.map It.id).Pairwise fun a b => ix items a < ix items b := by
  rw [List.pairwise_iff_getElem]
  intro i j hi hj hij
  have hi' : i < items.length := by simpa using hi
  have hj' : j < items.length := by simpa using hj
  simp only [List.getElem_map]
  rw [ix_of hnd (List.getElem?_eq_getElem hi'), ix_of hnd (List.getElem?_eq_getElem hj')]
  exact hij
theorem leave1_pw {p : Seq.Plan} (h : POk p) (s : Int) {items : List It} (hnd : (items.map It.id).Nodup) : (leaveF (pass1 p s items)).Pairwise fun a b => k1 p items a < k1 p items b ∨ (k1 p items a = k1 p items b ∧ ix items a < ix items b) := by
  unfold pass1
  rw [leaveF_eq]
  refine flatten_pairwise (k1 p items) (fun a b => ix items a < ix items b) _ _ fun k hk => ?_
  have hg := playF_goes (s := s) _ (feeds1_lt h items) k
  refine ⟨fun id hid => ?_, ?_⟩
  · have hg := hg.subset hid
    unfold goes at hg
    obtain ⟨f, hf, rfl⟩ := List.mem_map.1 hg
    obtain ⟨hf1, hf2⟩ := List.mem_filter.1 hf
    obtain ⟨x, hx, rfl⟩ := List.mem_map.1 hf1
    simp only [decide_eq_true_eq] at hf2
    unfold k1
    rw [itF_find hnd hx]
    simp only []
    omega
  · have hsub := hg.trans (goes_sub _ k)
    rw [feeds1_items] at hsub
    exact (ix_pw hnd).sublist hsub
theorem order_mem {p : Seq.Plan} (h : POk p) (s : Int) {items : List It} (hnd : (items.map It.id).Nodup) {id : Int} (hid : id ∈ orderF p s items) : ∃ x t, x ∈ items ∧ x.id = id ∧ itF items id = some x ∧ x.first = true ∧ x.second = true ∧ findF p.seats x.stop = some t ∧ k1 p items id = t.first.toNat ∧ k2 p items id = t.second.toNat := by
  have h0 := hid
  unfold orderF pass2 at hid
  rw [leaveF_eq] at hid
  obtain ⟨l, hl, hm⟩ := List.mem_flatten.1 hid
  obtain ⟨k, hk, rfl⟩ := List.mem_map.1 hl
  have hg := (playF_goes _ (feeds2_lt h items _) k).subset hm
  unfold goes at hg
  obtain ⟨f, hf, rfl⟩ := List.mem_map.1 hg
  obtain ⟨hf1, hf2⟩ := List.mem_filter.1 hf
  obtain ⟨id', hx, rfl⟩ := List.mem_map.1 hf1
  simp only [decide_eq_true_eq] at hf2
  obtain ⟨x, t, g1, g2, g3, g4, g5⟩ := leave1_mem h s hnd hx
  refine ⟨x, t, g1, g2, g3, g4, ?_, g5, ?_, ?_⟩
  · unfold st2 at hf2
    rw [g3] at hf2
    simp only [] at hf2
    split at hf2
    · assumption
    · omega
  · unfold k1 st1
    simp only [g3, g5, g4, if_true]
  · unfold st2 at hf2
    rw [g3] at hf2
    simp only [] at hf2
    split at hf2
    · rename_i hs2
      unfold k2 st2
      simp only [g3, g5, hs2, if_true]
    · omega
theorem order_pw {p : Seq.Plan} (h : POk p) (s : Int) {items : List It} (hnd : (items.map It.id).Nodup) : (orderF p s items).Pairwise fun a b => k2 p items a < k2 p items b ∨ (k2 p items a = k2 p items b ∧ (k1 p items a < k1 p items b ∨ (k1 p items a = k1 p items b ∧ ix items a < ix items b))) := by
  unfold orderF pass2
  rw [leaveF_eq]
  refine flatten_pairwise (k2 p items) (fun a b => k1 p items a < k1 p items b ∨ (k1 p items a = k1 p items b ∧ ix items a < ix items b)) _ _ fun k hk => ?_
  have hg := playF_goes (s := s) _ (feeds2_lt h items (leaveF (pass1 p s items))) k
  refine ⟨fun id hid => ?_, ?_⟩
  · have hg := hg.subset hid
    unfold goes at hg
    obtain ⟨f, hf, rfl⟩ := List.mem_map.1 hg
    obtain ⟨hf1, hf2⟩ := List.mem_filter.1 hf
    obtain ⟨id', hx, rfl⟩ := List.mem_map.1 hf1
    simp only [decide_eq_true_eq] at hf2
    show (st2 p items id').toNat = k
    omega
  · have hsub := hg.trans (goes_sub _ k)
    rw [feeds2_items] at hsub
    exact (leave1_pw h s hnd).sublist hsub
/-- Seats along the route have growing places. -/
theorem seat_lt {p : Seq.Plan} (h : POk p) {i j : Nat} {a b : Seq.Seat} (ha : p.seats[i]? = some a) (hb : p.seats[j]? = some b) (hl : lexLt a b) : i < j := by
  rcases Nat.lt_trichotomy i j with g | g | g
  · exact g
  · subst g
    rw [ha] at hb; cases hb
    unfold lexLt at hl; omega
  · exfalso
    have hpw := List.pairwise_iff_getElem.1 h.pw
    obtain ⟨hi, rfl⟩ := List.getElem?_eq_some_iff.1 ha
    obtain ⟨hj, rfl⟩ := List.getElem?_eq_some_iff.1 hb
    have := hpw j i hj hi g
    unfold lexLt at hl this; omega
/-- The index of a stop's seat. -/
def seatIx (p : Seq.Plan) (stop : Int) : Nat := p.seats.findIdx fun s => s.stop == stop
theorem seatIx_get {p : Seq.Plan} {stop : Int} {t : Seq.Seat} (h : findF p.seats stop = some t) : p.seats[seatIx p stop]? = some t := by
  unfold findF at h
  unfold seatIx
  generalize p.seats = l at h
  induction l with
  | nil => simp at h
  | cons y r ih =>
    rw [List.find?_cons] at h
    rw [List.findIdx_cons]
    split at h
    · rename_i hy; cases h; simp [hy]
    · rename_i hy; simp [hy]; exact ih h
/-- THE ORDER: along the route, those of a stop in the order of feeding. -/
theorem order_lex {p : Seq.Plan} (h : POk p) (s : Int) {items : List It} (hnd : (items.map It.id).Nodup) {i : Nat} {a b : Int} (ha : (orderF p s items)[i]? = some a) (hb : (orderF p s items)[i + 1]? = some b) {x y : It} (hx : itF items a = some x) (hy : itF items b = some y) :
    seatIx p x.stop < seatIx p y.stop ∨ (seatIx p x.stop = seatIx p y.stop ∧ ix items a < ix items b) := by
  obtain ⟨x', t, _, _, e1, _, _, g1, g2, g3⟩ := order_mem h s hnd (List.mem_of_getElem? ha)
  obtain ⟨y', u, _, _, e2, _, _, g4, g5, g6⟩ := order_mem h s hnd (List.mem_of_getElem? hb)
  rw [hx] at e1; cases e1
  rw [hy] at e2; cases e2
  have hpw := List.pairwise_iff_getElem.1 (order_pw h s hnd)
  obtain ⟨hi, e1⟩ := List.getElem?_eq_some_iff.1 ha
  obtain ⟨hj, e2⟩ := List.getElem?_eq_some_iff.1 hb
  have := hpw i (i + 1) hi hj (by omega)
  rw [e1, e2, g2, g3, g5, g6] at this
  have r1 := h.range t (findF_mem g1).1
  have r2 := h.range u (findF_mem g4).1
  have q1 := seatIx_get g1
  have q2 := seatIx_get g4
  by_cases he : t = u
  · right
    subst he
    have : seatIx p x.stop = seatIx p y.stop := by
      rw [← (findF_mem g1).2, ← (findF_mem g4).2]
    omega
  · left
    have hlt : lexLt t u ∨ (t.first = u.first ∧ t.second = u.second) := by
      unfold lexLt
      omega
    rcases hlt with hlt | ⟨e3, e4⟩
    · exact seat_lt h q1 q2 hlt
    · exfalso
      rcases Nat.lt_trichotomy (seatIx p x.stop) (seatIx p y.stop) with g | g | g
      · have := List.pairwise_iff_getElem.1 h.pw _ _ (List.getElem?_eq_some_iff.1 q1).1 (List.getElem?_eq_some_iff.1 q2).1 g
        rw [(List.getElem?_eq_some_iff.1 q1).2, (List.getElem?_eq_some_iff.1 q2).2] at this
        unfold lexLt at this; omega
      · rw [g, q2] at q1; cases q1; exact he rfl
      · have := List.pairwise_iff_getElem.1 h.pw _ _ (List.getElem?_eq_some_iff.1 q2).1 (List.getElem?_eq_some_iff.1 q1).1 g
        rw [(List.getElem?_eq_some_iff.1 q1).2, (List.getElem?_eq_some_iff.1 q2).2] at this
        unfold lexLt at this; omega
end Go.Sx.Srt
namespace Go.Sx.Seq
theorem countP_or {α : Type} (p q : α → Bool) : ∀ l : List α, (l.countP fun x => p x || q x) ≤ l.countP p + l.countP q
  | [] => by simp
  | x :: r => by
    have ih := countP_or p q r
    simp only [List.countP_cons]
    cases p x <;> cases q x <;> simp <;> omega
theorem count_seats {items : List Int} {g : Seat → Int} {k : Nat} : ∀ t : List Seat, (∀ s ∈ t, (items.count s.stop : Int) ≤ s.vol ∧ 0 ≤ s.vol) → ((items.countP fun x => t.any fun s => s.stop == x && (g s).toNat == k : Nat) : Int) ≤ loadOf g k t
  | [], _ => by simp [loadOf]
  | s :: r, h => by
    have ih := count_seats (g := g) (k := k) r fun x hx => h x (List.mem_cons_of_mem _ hx)
    obtain ⟨h1, h2⟩ := h s List.mem_cons_self
    have h3 := countP_or (fun x => s.stop == x && (g s).toNat == k) (fun x => r.any fun s => s.stop == x && (g s).toNat == k) items
    simp only [List.any_cons]
    rw [loadOf]
    by_cases e : (g s).toNat = k
    · have h4 : (items.countP fun x => s.stop == x && (g s).toNat == k) = items.count s.stop := by
        rw [List.count]
        apply List.countP_congr
        intro x _
        have e' : ((g s).toNat == k) = true := by simpa using e
        rw [e', Bool.and_true, beq_iff_eq, beq_iff_eq]
        exact eq_comm
      rw [if_pos e]
      omega
    · have h4 : (items.countP fun x => s.stop == x && (g s).toNat == k) = 0 := by
        rw [List.countP_eq_zero]
        intro x _
        simp [e]
      rw [if_neg e]
      omega
theorem range_map_get (l : List Int) : (List.range l.length).map (fun i => l[i]?) = l.map some := by
  apply List.ext_getElem?
  intro i
  by_cases h : i < l.length
  · simp [h]
  · rw [List.getElem?_eq_none (by simpa using h), List.getElem?_eq_none (by simpa using h)]
theorem passF_at {n k : Nat} (key : Nat → Nat) (l : List Nat) (h : k < n) : (passF n key l)[k]? = some (l.filter fun i => key i = k) := by simp [passF, h]
theorem Good.load {l : List Stop} {caps : List Int} {p : Plan} (h : Good l caps p) (hr : routeFrom [] l) {items : List Int} (hw : Within l items) (g : Seat → Int) {l' : List Nat} (hp : l'.Perm (List.range items.length)) (k : Nat) :
    ((l'.filter fun i => keyF p.seats items g i = k).length : Int) ≤ loadOf g k p.seats := by
  rw [(hp.filter _).length_eq]
  have hvol : ∀ s ∈ p.seats, (items.count s.stop : Int) ≤ s.vol ∧ 0 ≤ s.vol := fun s hs => by
    obtain ⟨j, hj⟩ := List.getElem?_of_mem hs
    have hlj : l[j]? = some s.asStop := by rw [← h.stops]; simp [hj]
    have h1 := hw.cnt _ (List.mem_of_getElem? hlj)
    have h2 := hr.1 _ (List.mem_of_getElem? hlj)
    unfold Stop.ok at h2
    unfold Seat.asStop at h1 h2
    simp only [] at h1 h2
    omega
  have hb := count_seats (items := items) (g := g) (k := k) p.seats hvol
  refine Int.le_trans (Int.ofNat_le.2 ?_) hb
  rw [← List.countP_eq_length_filter]
  let P : Option Int → Bool := fun o => decide (((o.bind (findF p.seats)).elim 0 g).toNat = k)
  have e1 : (List.range items.length).countP (fun i => decide (keyF p.seats items g i = k)) = ((List.range items.length).map (fun i => items[i]?)).countP P := by
    rw [List.countP_map]; rfl
  rw [e1, range_map_get, List.countP_map]
  apply List.countP_mono_left
  intro x hx hP
  obtain ⟨j, t, s, h1, h2, h3, h4, h5, h6⟩ := h.found hr hw hx
  simp only [Function.comp, P, Option.bind_some, h6, Option.elim_some, decide_eq_true_eq] at hP
  rw [List.any_eq_true]
  exact ⟨s, List.mem_of_getElem? h3, by simp [h4, hP]⟩
/-- What the stackers hold, their loads, and their capacities. -/
theorem Good.rows {l : List Stop} {caps : List Int} {p : Plan} (h : Good l caps p) (hr : routeFrom [] l) {items : List Int} (hw : Within l items) {k : Nat} (hk : k < caps.length) : ∃ r1 r2 f1 f2 c, (runF p items).first[k]? = some r1 ∧ (runF p items).second[k]? = some r2 ∧ p.first[k]? = some f1 ∧ p.second[k]? = some f2 ∧ caps[k]? = some c ∧
    (r1.length : Int) ≤ f1 ∧ (r2.length : Int) ≤ f2 ∧ f1 ≤ c ∧ f2 ≤ c := by
  have hp := h.perms hr hw
  have hlen : k < p.caps.length := by rw [h.caps_eq]; exact hk
  have e1 : (runF p items).first[k]? = some ((List.range items.length).filter fun i => keyF p.seats items Seat.first i = k) := by
    exact passF_at _ _ hlen
  have e2 : (runF p items).second[k]? = some ((runF p items).first.flatten.filter fun i => keyF p.seats items Seat.second i = k) := by
    exact passF_at _ _ hlen
  have e3 : p.first[k]? = some (loadOf Seat.first k p.seats) := by rw [h.first_eq]; exact loadsF_get _ hk _
  have e4 : p.second[k]? = some (loadOf Seat.second k p.seats) := by rw [h.second_eq]; exact loadsF_get _ hk _
  have e5 : caps[k]? = some caps[k] := List.getElem?_eq_getElem hk
  have ho := (overF_none (by rw [h.first_eq, loadsF_len]) (by rw [h.second_eq, loadsF_len])).1 h.over k _ _ _ e5 e3 e4
  exact ⟨_, _, _, _, _, e1, e2, e3, e4, e5, h.load hr hw _ (List.Perm.refl _) k, h.load hr hw _ hp.1 k, ho.1, ho.2⟩
end Go.Sx.Seq
namespace Go.Sx.Srt
open Go.Sx.Seq (addAt addAt_len findF lexLt loadOf)
/-- Loads within the capacities, items within the volumes. -/
structure Room (p : Seq.Plan) (items : List It) : Prop where
  vol : ∀ s ∈ p.seats, ((items.map It.stop).count s.stop : Int) ≤ s.vol ∧ 0 ≤ s.vol
  l1 : ∀ k, k < p.caps.length → loadOf Seq.Seat.first k p.seats ≤ p.caps.getD k 0
  l2 : ∀ k, k < p.caps.length → loadOf Seq.Seat.second k p.seats ≤ p.caps.getD k 0
/-- Items that are read in both passes. -/
def readAll (items : List It) : List It := items.map fun x => ⟨x.id, x.stop, true, true⟩
theorem readAll_stops (items : List It) : (readAll items).map It.stop = items.map It.stop := by simp [readAll, Function.comp_def]
theorem Room.all {p : Seq.Plan} {items : List It} (h : Room p items) : Room p (readAll items) := ⟨by rw [readAll_stops]; exact h.vol, h.l1, h.l2⟩
end Go.Sx.Srt
namespace Go.Sx.Plt
open Go.Sx.Seq (findF)
open Go.Sx.Srt (It goes feeds1 feeds2 pass1 pass2 leaveF orderF st1 st2 itF ix seatIx POk)
open Go.Proofs.Ytkhaemjoekfhiaa (psF tkF mslF_keys)
def rtStop (i : Nat) : Seq.Stop := ⟨60 - 2 * (i : Int), 9⟩
def rtStops (n : Nat) : List Seq.Stop := (List.range n).map rtStop
theorem rtStops_succ (n : Nat) : rtStops (n + 1) = rtStops n ++ [rtStop n] := by simp [rtStops, List.range_succ]
theorem rtStops_len (n : Nat) : (rtStops n).length = n := by simp [rtStops]
def rtM (s : Nat) : Mach := ⟨1, 0, 3, List.replicate s 120, [⟨5, 8⟩, ⟨9, 400⟩]⟩
def rowA (x : Seq.Seat) : Row := ⟨x.stop, x.first⟩
def rowB (x : Seq.Seat) : Row := ⟨x.stop, x.second⟩
def rtA (pl : Seq.Plan) : Pass := ⟨1, 1, 0, [(0, 1)], pl.seats.map rowA, []⟩
def srcB (s : Nat) : List (Int × Int) := (List.range s).map fun (k : Nat) => (1, (k : Int))
theorem srcB_succ (s : Nat) : srcB (s + 1) = srcB s ++ [(1, (s : Int))] := by simp [srcB, List.range_succ]
theorem srcB_len (s : Nat) : (srcB s).length = s := by simp [srcB]
def rtB (pl : Seq.Plan) (s : Nat) : Pass := ⟨2, 1, 0, srcB s, pl.seats.map rowB, []⟩
def rtItem (x : Nat × Nat) : Item := ⟨1 + x.1, 60 - 2 * x.2, 1⟩
def rtP (pl : Seq.Plan) (s : Nat) (its : List (Nat × Nat)) : Plant := ⟨[rtM s], its.map rtItem, [rtA pl, rtB pl s]⟩
def rtIt (x : Nat × Nat) : It := ⟨1 + x.1, 60 - 2 * x.2, true, true⟩
structure RtOk (n i : Nat) (its : List (Nat × Nat)) : Prop where
  lt : ∀ x ∈ its, x.1 < i ∧ x.2 < n
  pw : its.Pairwise fun a b => a.1 < b.1
  len : its.length ≤ i
theorem RtOk.next {n i : Nat} {its : List (Nat × Nat)} (h : RtOk n i its) : RtOk n (i + 1) its := ⟨fun x hx => by have := h.lt x hx; omega, h.pw, by have := h.len; omega⟩
theorem RtOk.more {n i k : Nat} {its : List (Nat × Nat)} (h : RtOk n i its) (hk : k < n) : RtOk n (i + 1) (its ++ [(i, k)]) := by
  refine ⟨fun x hx => ?_, ?_, by rw [List.length_append, List.length_singleton]; have := h.len; omega⟩
  · rcases List.mem_append.1 hx with hx | hx
    · have := h.lt x hx; omega
    · simp at hx; subst hx; dsimp only; omega
  · rw [List.pairwise_append]
    refine ⟨h.pw, by simp, fun a ha b hb => ?_⟩
    simp at hb; subst hb
    exact (h.lt a ha).1
theorem rt_route (n : Nat) (hn : n ≤ 30) : Seq.routeFrom [] (rtStops n) := by
  refine ⟨fun s hs => ?_, ?_, by simp⟩
  · obtain ⟨i, hi, rfl⟩ := List.mem_map.1 hs
    have := List.mem_range.1 hi
    unfold Seq.Stop.ok rtStop
    dsimp only
    omega
  · unfold rtStops
    rw [List.map_map]
    refine List.Pairwise.map _ (R := fun a b => a ≠ b) (fun a b hab e => hab ?_) List.nodup_range
    simp only [Function.comp, rtStop] at e
    omega
theorem fold_not {α : Type} (k v : α → Int) {z : Int} : ∀ (l : List α) (m : List (Int × Int)), z ∉ l.map k → asF z (l.foldl (fun m e => putF (k e) (v e) m) m) = asF z m
  | [], m, _ => rfl
  | a :: r, m, h => by
    rw [List.map_cons, List.mem_cons, not_or] at h
    rw [List.foldl_cons, fold_not k v r _ h.2, asF_put, if_neg (fun e => h.1 e.symm)]
theorem fold_at {α : Type} (k v : α → Int) : ∀ (l : List α) (m : List (Int × Int)), (l.map k).Nodup → ∀ x ∈ l, asF (k x) (l.foldl (fun m e => putF (k e) (v e) m) m) = some (v x)
  | [], m, _, x, hx => by simp at hx
  | a :: r, m, h, x, hx => by
    rw [List.map_cons, List.nodup_cons] at h
    rw [List.foldl_cons]
    rcases List.mem_cons.1 hx with rfl | hx
    · rw [fold_not k v r _ h.1, asF_put, if_pos rfl]
    · exact fold_at k v r _ h.2 x hx
/-- What is known of a plan, and of the items. -/
structure Rt (pl : Seq.Plan) (n s : Nat) (its : List (Nat × Nat)) : Prop where
  good : Seq.Good (rtStops n) (List.replicate s 120) pl
  nn : n ≤ 30
  ss : 1 ≤ s ∧ s ≤ 12
  ok : RtOk n 90 its
theorem rt_caps (s : Nat) (hs : 1 ≤ s ∧ s ≤ 12) : Srt.capsOk (List.replicate s 120) := ⟨by rw [List.length_replicate]; omega, fun c hc => by have := List.eq_of_mem_replicate hc; omega⟩
theorem rt_mach (s : Nat) (hs : 1 ≤ s ∧ s ≤ 12) : Seq.machineOk (List.replicate s 120) := ⟨by rw [List.length_replicate]; omega, fun c hc => by have := List.eq_of_mem_replicate hc; omega⟩
section
variable {pl : Seq.Plan} {n s : Nat} {its : List (Nat × Nat)}
theorem Rt.pok (h : Rt pl n s its) : POk pl := Srt.Good.pok h.good (rt_mach s h.ss) (rt_route n h.nn)
theorem Rt.caps (h : Rt pl n s its) : pl.caps = List.replicate s 120 := h.good.caps_eq
theorem Rt.seats (h : Rt pl n s its) : pl.seats.length = n := by have := congrArg List.length h.good.stops; rw [List.length_map, rtStops_len] at this; exact this
theorem Rt.ids (h : Rt pl n s its) : ((its.map rtItem).map Item.id).Nodup := by
  rw [List.map_map]
  refine List.Pairwise.map _ (R := fun a b => a.1 < b.1) (fun a b hab e => ?_) h.ok.pw
  simp only [Function.comp, rtItem] at e
  omega
theorem Rt.itids (h : Rt pl n s its) : ((its.map rtIt).map It.id).Nodup := by
  rw [List.map_map]
  refine List.Pairwise.map _ (R := fun a b => a.1 < b.1) (fun a b hab e => ?_) h.ok.pw
  simp only [Function.comp, rtIt] at e
  omega
theorem Rt.rows (h : Rt pl n s its) (g : Seq.Seat → Row) (hg : ∀ x, (g x).stop = x.stop) (hr : ∀ x ∈ pl.seats, 0 ≤ (g x).st ∧ (g x).st < s) : rowsOk (s : Int) [] (pl.seats.map g) := by
  refine rows_of ?_ fun e he => ⟨by simp, ?_⟩
  · rw [List.map_map, show Row.stop ∘ g = Seq.Seat.stop from funext hg]
    exact h.pok.nd
  · obtain ⟨x, hx, rfl⟩ := List.mem_map.1 he
    exact hr x hx
theorem Rt.range (h : Rt pl n s its) : ∀ x ∈ pl.seats, (0 ≤ x.first ∧ x.first < s) ∧ (0 ≤ x.second ∧ x.second < s) := fun x hx => by
  have := h.good.range x hx
  rw [List.length_replicate] at this
  exact this
theorem Rt.valid (h : Rt pl n s its) : validF (rtP pl s its) = (0, 0) := by
  have hsl := h.seats
  have hrg := h.range
  have hn := h.nn
  have hs := h.ss
  have hmsl : mslF [rtM s] = [(1, (s : Int))] := by simp [mslF, rtM]
  have e1 : asF (1 : Int) [((1 : Int), (s : Int))] = some (s : Int) := rfl
  have e2 : asF (2 : Int) [((1 : Int), (s : Int))] = none := rfl
  refine validF_of ⟨by show 1 ≤ 20; decide, ?_, by show 2 ≤ 60; decide⟩ (by show ([(1 : Int)]).Nodup; decide) (fun m hm => ?_) h.ids (fun x hx => ?_) (fun j y hy => ?_)
  · show (its.map rtItem).length ≤ 2000
    rw [List.length_map]; have := h.ok.len; omega
  · obtain rfl : m = rtM s := by simpa [rtP] using hm
    refine ⟨by unfold idOk rtM; dsimp only; decide, by unfold rtM; dsimp only; decide, ?_, ?_⟩
    · show (Srt.runF (List.replicate s 120) 0 []).2 = 0
      rw [Srt.runF_ok (rt_caps s hs) (by omega) ⟨by simp, by simp, by simp⟩]
    · show (allowedF [] [⟨5, 8⟩, ⟨9, 400⟩]).2 = 0
      decide
  · obtain ⟨z, hz, rfl⟩ := List.mem_map.1 hx
    have := h.ok.lt z hz
    unfold Item.ok idOk rtItem
    dsimp only
    omega
  · show passOk (mslF [rtM s]) (psF (mslF [rtM s]) ([rtA pl, rtB pl s].take j)) (tkF ([rtA pl, rtB pl s].take j)) y
    rw [hmsl]
    match j, hy with
    | 0, hy =>
      cases hy
      refine ⟨⟨⟨rfl, rfl⟩, ⟨by unfold rtA; dsimp only; decide, by unfold rtA; dsimp only; decide⟩, by unfold rtA; dsimp only; decide, by unfold rtA; dsimp only; decide⟩, ⟨⟨⟨by decide, by decide⟩, by simp [tkF]⟩, trivial⟩, ⟨?_, by show 0 ≤ 2000; decide⟩, ?_⟩
      · show (pl.seats.map rowA).length ≤ 1000
        rw [List.length_map]; omega
      · exact h.rows rowA (fun _ => rfl) fun x hx => (hrg x hx).1
    | 1, hy =>
      cases hy
      have hps : psF [((1 : Int), (s : Int))] ([rtA pl, rtB pl s].take 1) = [(1, (s : Int))] := rfl
      have htk : tkF ([rtA pl, rtB pl s].take 1) = [(0, 1)] := rfl
      rw [hps, htk]
      refine ⟨⟨⟨e2, rfl⟩, ⟨by unfold rtB; dsimp only; decide, by unfold rtB; dsimp only; decide⟩, by unfold rtB; dsimp only; decide, by unfold rtB; dsimp only; decide⟩, ?_, ⟨?_, by show 0 ≤ 2000; decide⟩, ?_⟩
      · show srcsOk _ _ (srcB s)
        refine srcs_of ?_ fun q hq => ?_
        · unfold srcB
          refine List.Pairwise.map _ (R := fun a b => a ≠ b) (fun a b hab e => hab ?_) List.nodup_range
          have := congrArg Prod.snd e
          dsimp only at this
          omega
        · obtain ⟨k, hk, rfl⟩ := List.mem_map.1 hq
          have := List.mem_range.1 hk
          refine ⟨by simp, ?_⟩
          unfold srcOk
          rw [if_neg (by dsimp only; decide)]
          dsimp only
          rw [e1]
          dsimp only
          omega
      · show (pl.seats.map rowB).length ≤ 1000
        rw [List.length_map]; omega
      · exact h.rows rowB (fun _ => rfl) fun x hx => (hrg x hx).2
/-! ## where items go -/
theorem Rt.find (h : Rt pl n s its) {x : Nat × Nat} (hx : x ∈ its) : ∃ t, findF pl.seats (60 - 2 * (x.2 : Int)) = some t ∧ pl.seats[x.2]? = some t ∧ t.stop = 60 - 2 * (x.2 : Int) := by
  have h2 := (h.ok.lt x hx).2
  obtain ⟨t, ht⟩ : ∃ t, pl.seats[x.2]? = some t := ⟨_, List.getElem?_eq_getElem (by rw [h.seats]; exact h2)⟩
  have hst : t.stop = 60 - 2 * (x.2 : Int) := by
    have e : (pl.seats.map Seq.Seat.asStop)[x.2]? = (rtStops n)[x.2]? := by rw [h.good.stops]
    rw [List.getElem?_map, ht, rtStops, List.getElem?_map, List.getElem?_range h2] at e
    have := congrArg Seq.Stop.id (Option.some.inj e)
    exact this
  have hsome : (findF pl.seats (60 - 2 * (x.2 : Int))).isSome := by
    unfold findF
    rw [List.find?_isSome]
    exact ⟨t, List.mem_of_getElem? ht, by simp [hst]⟩
  obtain ⟨u, hu⟩ := Option.isSome_iff_exists.1 hsome
  obtain ⟨hum, hus⟩ := Srt.findF_mem hu
  have : u = t := by
    have hnd := h.pok.nd
    obtain ⟨i, hi⟩ := List.getElem?_of_mem hum
    have a1 : (pl.seats.map Seq.Seat.stop)[i]? = some u.stop := by rw [List.getElem?_map, hi]; rfl
    have a2 : (pl.seats.map Seq.Seat.stop)[x.2]? = some u.stop := by rw [List.getElem?_map, ht, hus, ← hst]; rfl
    have hi1 := (List.getElem?_eq_some_iff.1 a1).1
    have : i = x.2 := (List.getElem?_inj hi1 hnd).1 (by rw [a1, a2])
    rw [this, ht] at hi
    exact (Option.some.inj hi).symm
  subst this
  exact ⟨u, hu, ht, hst⟩
theorem Rt.feed (h : Rt pl n s its) (g : Seq.Seat → Row) (hg : ∀ x, (g x).stop = x.stop) {y : Pass} (hyt : y.table = pl.seats.map g) (hyu : y.unread = []) {x : Nat × Nat} (hx : x ∈ its) {t : Seq.Seat} (ht : findF pl.seats (60 - 2 * (x.2 : Int)) = some t) :
    feedOf (stopsF (its.map rtItem)) y (1 + (x.1 : Int)) = ⟨1 + (x.1 : Int), (g t).st⟩ := by
  have h1 : asF (1 + (x.1 : Int)) (stopsF (its.map rtItem)) = some (60 - 2 * (x.2 : Int)) := fold_at Item.id Item.stop (its.map rtItem) [] h.ids (rtItem x) (List.mem_map.2 ⟨x, hx, rfl⟩)
  obtain ⟨htm, hts⟩ := Srt.findF_mem ht
  have h2 : asF (60 - 2 * (x.2 : Int)) (tableF y.table) = some (g t).st := by
    have hn : ((pl.seats.map g).map Row.stop).Nodup := by
      rw [List.map_map, show Row.stop ∘ g = Seq.Seat.stop from funext hg]; exact h.pok.nd
    have := fold_at Row.stop Row.st (pl.seats.map g) [] hn (g t) (List.mem_map.2 ⟨t, htm, rfl⟩)
    rw [hg t, hts] at this
    rw [hyt]
    exact this
  unfold feedOf
  rw [h1, Option.getD_some, h2]
  dsimp only
  rw [hyu, if_neg (by simp)]
theorem Rt.feeds1 (h : Rt pl n s its) : (its.map fun x => 1 + (x.1 : Int)).map (feedOf (stopsF (its.map rtItem)) (rtA pl)) = Srt.feeds1 pl (its.map rtIt) := by
  unfold Srt.feeds1
  rw [List.map_map, List.map_map]
  apply List.map_congr_left
  intro x hx
  obtain ⟨t, ht, -, -⟩ := h.find hx
  have hf := h.feed rowA (fun _ => rfl) (y := rtA pl) rfl rfl hx ht
  have hs : st1 pl (rtIt x) = t.first := by unfold st1; rw [show (rtIt x).stop = 60 - 2 * (x.2 : Int) from rfl, ht]; rfl
  show feedOf _ _ (1 + (x.1 : Int)) = ⟨(rtIt x).id, st1 pl (rtIt x)⟩
  rw [hf, hs]; rfl
theorem Rt.feeds2 (h : Rt pl n s its) {l : List Int} (hl : ∀ id ∈ l, ∃ x ∈ its, id = 1 + (x.1 : Int)) : l.map (feedOf (stopsF (its.map rtItem)) (rtB pl s)) = Srt.feeds2 pl (its.map rtIt) l := by
  unfold Srt.feeds2
  apply List.map_congr_left
  intro id hid
  obtain ⟨x, hx, rfl⟩ := hl id hid
  obtain ⟨t, ht, -, -⟩ := h.find hx
  have hf := h.feed rowB (fun _ => rfl) (y := rtB pl s) rfl rfl hx ht
  have hi : itF (its.map rtIt) (1 + (x.1 : Int)) = some (rtIt x) := Srt.itF_find (x := rtIt x) h.itids (List.mem_map.2 ⟨x, hx, rfl⟩)
  have hs : st2 pl (its.map rtIt) (1 + (x.1 : Int)) = t.second := by
    unfold st2
    rw [hi]
    show (if (rtIt x).second = true then _ else _) = _
    rw [if_pos (show (rtIt x).second = true from rfl), show (rtIt x).stop = 60 - 2 * (x.2 : Int) from rfl, ht]
  rw [hf, hs]; rfl
/-! ## nothing is refused, everything has room -/
theorem run_play {caps : List Int} {sw : Int} {l : List Srt.Fd} {m : Srt.M} (h : Srt.runF caps sw l = (m, 0)) : m = Srt.playF caps sw l := by
  unfold Srt.runF at h
  split at h
  · cases h
  split at h
  · cases h
  split at h
  · rename_i h1
    exact absurd (congrArg Prod.snd h) h1
  · exact (congrArg Prod.fst h).symm
theorem Rt.room (h : Rt pl n s its) {l : List Srt.Fd} (hl : l.length ≤ 90) : ∀ k, k < pl.caps.length → ((goes l k).length : Int) ≤ pl.caps.getD k 0 := by
  intro k hk
  rw [h.caps] at hk ⊢
  rw [List.length_replicate] at hk
  have h1 : (goes l k).length ≤ l.length := by
    unfold goes
    rw [List.length_map]
    exact List.length_filter_le _ _
  rw [List.getD_eq_getElem?_getD, List.getElem?_replicate, if_pos hk, Option.getD_some]
  omega
theorem refused_none {l : List Srt.Fd} (h : ∀ f ∈ l, 0 ≤ f.st) : Srt.refused l = [] := by
  unfold Srt.refused
  rw [List.filter_eq_nil_iff.2 fun f hf => by have := h f hf; simp; omega]
  rfl
theorem Rt.full (h : Rt pl n s its) : leaveF (pass1 pl 0 (its.map rtIt)) |>.Perm ((its.map rtIt).map It.id) := by
  have hp := Srt.two_perm1 h.pok 0 (its.map rtIt)
  have hl : (Srt.feeds1 pl (its.map rtIt)).length ≤ 90 := by unfold Srt.feeds1; rw [List.length_map, List.length_map]; exact h.ok.len
  have ho : (pass1 pl 0 (its.map rtIt)).over = [] := (Srt.playF_room (s := 0) _ (Srt.feeds1_lt h.pok _) (h.room hl)).1
  have hr : (pass1 pl 0 (its.map rtIt)).rej = [] := by
    unfold pass1
    rw [Srt.playF_refused]
    refine refused_none fun f hf => ?_
    unfold Srt.feeds1 at hf
    obtain ⟨z, hz, rfl⟩ := List.mem_map.1 hf
    obtain ⟨x, hx, rfl⟩ := List.mem_map.1 hz
    obtain ⟨t, ht, -, -⟩ := h.find hx
    have hs : st1 pl (rtIt x) = t.first := by unfold st1; rw [show (rtIt x).stop = 60 - 2 * (x.2 : Int) from rfl, ht]; rfl
    dsimp only
    rw [hs]
    exact (h.range t (Srt.findF_mem ht).1).1.1
  rw [ho, hr, List.append_nil, List.append_nil] at hp
  exact hp
theorem Rt.ids_of (h : Rt pl n s its) {id : Int} (hid : id ∈ leaveF (pass1 pl 0 (its.map rtIt))) : ∃ x ∈ its, id = 1 + (x.1 : Int) := by
  have := (h.full.mem_iff).1 hid
  rw [List.map_map] at this
  obtain ⟨x, hx, e⟩ := List.mem_map.1 this
  exact ⟨x, hx, e.symm⟩
theorem Rt.full2 (h : Rt pl n s its) : (orderF pl 0 (its.map rtIt)).Perm ((its.map rtIt).map It.id) := by
  have hp := Srt.two_perm2 h.pok 0 (its.map rtIt)
  have hl : (Srt.feeds2 pl (its.map rtIt) (leaveF (pass1 pl 0 (its.map rtIt)))).length ≤ 90 := by
    unfold Srt.feeds2
    rw [List.length_map, h.full.length_eq, List.length_map, List.length_map]; exact h.ok.len
  have ho : (pass2 pl 0 (its.map rtIt)).over = [] := (Srt.playF_room (s := 0) _ (Srt.feeds2_lt h.pok _ _) (h.room hl)).1
  have hr : (pass2 pl 0 (its.map rtIt)).rej = [] := by
    unfold pass2
    rw [Srt.playF_refused, ← h.feeds2 fun id hid => h.ids_of hid]
    refine refused_none fun f hf => ?_
    obtain ⟨id, hid, rfl⟩ := List.mem_map.1 hf
    obtain ⟨x, hx, rfl⟩ := h.ids_of hid
    obtain ⟨t, ht, -, -⟩ := h.find hx
    rw [h.feed rowB (fun _ => rfl) (y := rtB pl s) rfl rfl hx ht]
    exact (h.range t (Srt.findF_mem ht).1).2.1
  rw [ho, hr, List.append_nil, List.append_nil] at hp
  exact hp.trans h.full
end
end Go.Sx.Plt
namespace Go.Sx.Plt
/-! ## greater rates -/
theorem endF_cons (e : Int) (s : Int × Int) : ∀ l : List (Int × Int), endF e (s :: l) = endF s.2 l
  | [] => rfl
  | a :: r => by simp [endF, List.getLast?_cons_cons]; cases h : (a :: r).getLast? with
    | none => simp at h
    | some x => rfl
/-- A hall of runs that were faster. -/
structure Faster (A B : Hall) : Prop where
  rows : B.rows = A.rows
  ends : ∀ id e, asF id A.ends = some e → ∃ e', asF id B.ends = some e' ∧ e' ≤ e
  free : ∀ id, (asF id B.free).getD 0 ≤ (asF id A.free).getD 0
/-- The same machines with greater rates. -/
structure Raised (p q : Plant) : Prop where
  items : q.items = p.items
  passes : q.passes = p.passes
  ms : ∀ (k : Nat) (m : Mach), p.ms[k]? = some m → ∃ m', q.ms[k]? = some m' ∧ (m'.id = m.id ∧ m'.sweeps = m.sweeps) ∧ (m'.caps = m.caps ∧ m'.shifts = m.shifts) ∧ m.rate ≤ m'.rate
theorem Ran.fin_end {p : Plant} {h : Hall} {m : Mach} {y : Pass} {r : Run} {ready : Int} (hc : Ran p h m y r ready) (hne : r.items ≠ []) : r.fin = endF 0 (slicesF ready (needOf r.items.length m.rate) m.shifts) := by
  have h1 := hc.slices
  have h2 := hc.fin
  rw [if_neg hne] at h1 h2
  rw [← h1, h2, endF]
  cases he : r.slices.getLast? with
  | none => rw [List.getLast?_eq_none_iff.1 he]; rfl
  | some s => rw [List.getLastD_eq_getLast?, he]; rfl
/-- What is the same, and what is earlier. -/
def FastRun (r r' : Run) : Prop := (0 ≤ r'.fin ∧ r'.fin ≤ r.fin) ∧ r'.items = r.items ∧ r'.res.stackers = r.res.stackers
end Go.Sx.Plt
namespace Go.Sx.Plt
open Go.Sx.Seq (findF)
open Go.Sx.Srt (It goes pass1 pass2 leaveF orderF st1 st2 itF ix seatIx seatIx_get POk)
def placesF (its : List (Nat × Nat)) : List (Int × Int) := its.map fun x => (1 + (x.1 : Int), 100 * (x.2 : Int) + x.1)
theorem placesF_keys (its : List (Nat × Nat)) : (placesF its).map Prod.fst = its.map fun x => 1 + (x.1 : Int) := by simp [placesF, Function.comp_def]
theorem RtOk.keys {n i : Nat} {its : List (Nat × Nat)} (h : RtOk n i its) : ((placesF its).map Prod.fst).Nodup := by
  rw [placesF_keys]
  exact List.Pairwise.map _ (R := fun a b => a.1 < b.1) (fun a b hab e => by omega) h.pw
theorem RtOk.new {n i : Nat} {its : List (Nat × Nat)} (h : RtOk n i its) : asF (1 + (i : Int)) (placesF its) = none := asF_none.2 fun q hq e => by
  obtain ⟨x, hx, rfl⟩ := List.mem_map.1 hq
  have := (h.lt x hx).1
  dsimp only at e
  omega
theorem RtOk.put {n i : Nat} {its : List (Nat × Nat)} (h : RtOk n i its) (k : Nat) : putF (1 + (i : Int)) (100 * (k : Int) + i) (placesF its) = placesF (its ++ [(i, k)]) := by
  rw [putF_new h.new]; simp [placesF]
theorem RtOk.place {n i : Nat} {its : List (Nat × Nat)} (h : RtOk n i its) {x : Nat × Nat} (hx : x ∈ its) : asF (1 + (x.1 : Int)) (placesF its) = some (100 * (x.2 : Int) + x.1) := by
  obtain ⟨j, hj⟩ := List.getElem?_of_mem hx
  exact asF_at (j := j) h.keys (by rw [placesF, List.getElem?_map, hj]; rfl)
theorem end_small {q : Int} (hq : 0 ≤ q ∧ q ≤ 30) : endF 0 (slicesF 0 q [⟨5, 8⟩, ⟨9, 400⟩]) ≤ 39 ∧ 0 ≤ endF 0 (slicesF 0 q [⟨5, 8⟩, ⟨9, 400⟩]) := by
  simp only [slicesF]
  repeat' split
  all_goals simp only [endF_cons, endF_nil]
  all_goals omega
section
variable {pl : Seq.Plan} {n s : Nat} {its : List (Nat × Nat)}
theorem Rt.taken0 (its : List (Nat × Nat)) : takenF (its.map rtItem) [] [(0, 1)] = its.map fun x => 1 + (x.1 : Int) := by
  unfold takenF ofBatch
  rw [List.flatMap_cons, List.flatMap_nil, List.append_nil, List.flatMap_nil, List.append_nil, if_pos rfl]
  rw [List.filter_eq_self.2 fun y hy => by obtain ⟨x, hx, rfl⟩ := List.mem_map.1 hy; rfl, List.map_map]
  rfl
theorem taken1 {its : List (Nat × Nat)} {r0 : Run} (h1 : r0.pass = 1) (h2 : r0.res.stackers.length = s) : takenF (its.map rtItem) [r0] (srcB s) = r0.res.stackers.flatten := by
  rw [Srt.getD_list h2]
  unfold takenF srcB
  rw [List.flatMap_map, List.flatMap_def]
  congr 1
  rw [← Srt.getD_list h2]
  conv => rhs; rw [Srt.getD_list h2]
  apply List.map_congr_left
  intro k hk
  have hk := List.mem_range.1 hk
  unfold ofBatch ofRun
  rw [if_neg (by dsimp only; decide), List.nil_append, List.flatMap_cons, List.flatMap_nil, List.append_nil, if_pos ⟨h1, by dsimp only; omega⟩]
  rfl
theorem rt_m {k : Nat} {m : Mach} (h : ([rtM s] : List Mach)[k]? = some m) : m = rtM s := by
  have := List.mem_of_getElem? h
  simpa using this
theorem Rt.runs (h : Rt pl n s its) : ∃ r0 r1, playF (rtP pl s its) = [r0, r1] ∧ r1.res.stackers.flatten = orderF pl 0 (its.map rtIt) := by
  have hv := valid_of h.valid
  have hy0 : (rtP pl s its).passes[0]? = some (rtA pl) := rfl
  have hy1 : (rtP pl s its).passes[1]? = some (rtB pl s) := rfl
  obtain ⟨r0, hr0⟩ := Valid.get hy0
  obtain ⟨r1, hr1⟩ := Valid.get hy1
  have hpl : playF (rtP pl s its) = [r0, r1] := by
    have hl : (playF (rtP pl s its)).length = 2 := playF_len _
    match hq : playF (rtP pl s its), hl with
    | [a, b], _ =>
      rw [hq] at hr0 hr1
      cases hr0; cases hr1; rfl
  refine ⟨r0, r1, hpl, ?_⟩
  obtain ⟨k, m, hm, hmid, hmr, -, hh1, hmsl, hcs⟩ := hv.run hy0 hr0
  obtain ⟨k', m', hm', hmid', hmr', -, -, hmsl', hcs'⟩ := hv.run hy1 hr1
  obtain rfl := rt_m hm
  obtain rfl := rt_m hm'
  have hlen := h.ok.len
  have hid0 : (hallAt (rtP pl s its) 0).free = [] := by rw [hallAt_zero]; rfl
  have hie0 : (hallAt (rtP pl s its) 0).ends = [] := by rw [hallAt_zero]; rfl
  have ht0 := hv.taken' hy0
  have e0 : takenF (rtP pl s its).items ((playF (rtP pl s its)).take 0) (rtA pl).src = its.map fun x => 1 + (x.1 : Int) := Rt.taken0 its
  rw [e0] at ht0
  have hts0 : takeSrc (hallAt (rtP pl s its) 0) (max (rtA pl).rel ((asF (rtM s).id (hallAt (rtP pl s its) 0).free).getD 0)) [] (rtA pl).src = some (0, its.map fun x => 1 + (x.1 : Int)) := by
    rw [hid0, ← ht0]
    show takeSrc _ _ [] [(0, 1)] = _
    rw [takeSrc, if_neg (by decide), takeSrc]
    simp [rtA, asF]
  rcases hcs with hc | ⟨ready, hc⟩
  · have := hc.why _ _ hts0
    rw [show haveF 0 (rtM s).shifts = 394 from rfl, show (rtM s).rate = 3 from rfl, List.length_map] at this
    omega
  have htk := hc.take
  rw [hts0] at htk
  obtain ⟨rfl, hit⟩ : (0 : Int) = ready ∧ its.map (fun x => 1 + (x.1 : Int)) = r0.items := ⟨congrArg Prod.fst (Option.some.inj htk), congrArg Prod.snd (Option.some.inj htk)⟩
  have hres0 : r0.res = pass1 pl 0 (its.map rtIt) := by
    have g := hc.res
    rw [← hit, show stopsF (rtP pl s its).items = stopsF (its.map rtItem) from rfl, h.feeds1] at g
    have := run_play g
    rw [this]
    unfold pass1
    rw [h.caps]; rfl
  have hfin0 : 0 ≤ r0.fin ∧ r0.fin ≤ 39 := by
    by_cases hne : r0.items = []
    · have := hc.fin
      rw [if_pos hne] at this
      omega
    · have hf := hc.fin_end hne
      have hq : 0 ≤ needOf r0.items.length (rtM s).rate ∧ needOf r0.items.length (rtM s).rate ≤ 30 := by
        rw [← hit, List.length_map]
        unfold needOf
        rw [show (rtM s).rate = 3 from rfl]
        omega
      rw [hf]
      have := end_small hq
      exact ⟨this.2, this.1⟩
  have hp0 : r0.pass = 1 := hc.pass
  have hsl : r0.res.stackers.length = s := by have := hc.stk_len; rw [this]; exact List.length_replicate
  have hends : (hallAt (rtP pl s its) 1).ends = [(1, r0.fin)] := by rw [hh1, hc.hall, hie0]; rfl
  have hfree : (hallAt (rtP pl s its) 1).free = [(1, r0.fin)] := by rw [hh1, hc.hall, hid0]; rfl
  have ht1 := hv.taken' hy1
  have e1 : takenF (rtP pl s its).items ((playF (rtP pl s its)).take 1) (rtB pl s).src = leaveF (pass1 pl 0 (its.map rtIt)) := by
    rw [hpl]
    show takenF (its.map rtItem) [r0] (srcB s) = _
    rw [taken1 hp0 hsl, hres0]; rfl
  rw [e1] at ht1
  have hl1 : (leaveF (pass1 pl 0 (its.map rtIt))).length ≤ 90 := by rw [h.full.length_eq, List.length_map, List.length_map]; exact hlen
  have hs1 : ∀ q ∈ (rtB pl s).src, q.1 = 1 := fun q hq => by
    obtain ⟨k, hk, rfl⟩ := List.mem_map.1 (show q ∈ srcB s from hq)
    rfl
  have hrd : ∀ {ready : Int} {items : List Int}, takeSrc (hallAt (rtP pl s its) 1) (max (rtB pl s).rel ((asF (rtM s).id (hallAt (rtP pl s its) 1).free).getD 0)) [] (rtB pl s).src = some (ready, items) → (ready ≤ 39 ∧ 0 ≤ ready) ∧ items = leaveF (pass1 pl 0 (its.map rtIt)) := fun {ready items} ht => by
    obtain ⟨g1, g2, g3⟩ := takeSrc_max ht
    have gi := (takeSrc_spec ht).1
    rw [List.nil_append, ht1] at gi
    refine ⟨?_, gi⟩
    rcases g3 with g3 | ⟨q, hq, h0, he⟩
    · rw [hfree] at g3
      have : (asF (rtM s).id [((1 : Int), r0.fin)]).getD 0 = r0.fin := rfl
      rw [this] at g3
      have : (rtB pl s).rel = 0 := rfl
      omega
    · rw [hends, hs1 q hq] at he
      have : asF (1 : Int) [((1 : Int), r0.fin)] = some r0.fin := rfl
      rw [this] at he
      cases he
      omega
  rcases hcs' with hc' | ⟨ready, hc'⟩
  · obtain ⟨⟨q1, q2⟩, hq⟩ := takeSrc_all (h := hallAt (rtP pl s its) 1) (l := (rtB pl s).src) (max (rtB pl s).rel ((asF (rtM s).id (hallAt (rtP pl s its) 1).free).getD 0)) [] (fun q hq h0 => ⟨r0.fin, by rw [hends, hs1 q hq]; rfl⟩)
    have hw := hc'.why q1 q2 hq
    obtain ⟨hb, rfl⟩ := hrd hq
    rw [show (rtM s).shifts = [⟨5, 8⟩, ⟨9, 400⟩] from rfl, show (rtM s).rate = 3 from rfl, haveF, haveF, haveF] at hw
    dsimp only at hw
    omega
  have htk' := hc'.take
  obtain ⟨hb, hit'⟩ := hrd htk'
  have g := hc'.res
  rw [hit', show stopsF (rtP pl s its).items = stopsF (its.map rtItem) from rfl, h.feeds2 fun id hid => h.ids_of hid] at g
  have hr := run_play g
  rw [hr]
  unfold orderF leaveF pass2
  rw [h.caps]; rfl
/-! ## the order -/
theorem Rt.seatIx (h : Rt pl n s its) {x : Nat × Nat} (hx : x ∈ its) : Srt.seatIx pl (60 - 2 * (x.2 : Int)) = x.2 := by
  obtain ⟨t, ht, hk, hst⟩ := h.find hx
  have h1 := seatIx_get ht
  have a1 : (pl.seats.map Seq.Seat.stop)[Srt.seatIx pl (60 - 2 * (x.2 : Int))]? = some t.stop := by rw [List.getElem?_map, h1]; rfl
  have a2 : (pl.seats.map Seq.Seat.stop)[x.2]? = some t.stop := by rw [List.getElem?_map, hk]; rfl
  exact (List.getElem?_inj (List.getElem?_eq_some_iff.1 a1).1 h.pok.nd).1 (by rw [a1, a2])
def lastP (its : List (Nat × Nat)) (X : List Int) : Nat → Int
  | 0 => -1
  | t + 1 => (asF (X.getD t 0) (placesF its)).getD 0
theorem Rt.mem (h : Rt pl n s its) {t : Nat} {id : Int} (ht : (orderF pl 0 (its.map rtIt))[t]? = some id) : ∃ x ∈ its, id = 1 + (x.1 : Int) := by
  have := (h.full2.mem_iff).1 (List.mem_of_getElem? ht)
  rw [List.map_map] at this
  obtain ⟨x, hx, e⟩ := List.mem_map.1 this
  exact ⟨x, hx, e.symm⟩
theorem Rt.len (h : Rt pl n s its) : (orderF pl 0 (its.map rtIt)).length = its.length := by rw [h.full2.length_eq, List.length_map, List.length_map]
theorem Rt.step (h : Rt pl n s its) {t : Nat} {id : Int} (ht : (orderF pl 0 (its.map rtIt))[t]? = some id) : ∃ v, asF id (placesF its) = some v ∧ lastP its (orderF pl 0 (its.map rtIt)) t < v ∧ lastP its (orderF pl 0 (its.map rtIt)) (t + 1) = v ∧ 0 ≤ v := by
  obtain ⟨y, hy, rfl⟩ := h.mem ht
  have hpy := h.ok.place hy
  have hyl := (h.ok.lt y hy).1
  refine ⟨_, hpy, ?_, ?_, by omega⟩
  · cases t with
    | zero => rw [lastP]; omega
    | succ t =>
      have hlt : t + 1 < (orderF pl 0 (its.map rtIt)).length := (List.getElem?_eq_some_iff.1 ht).1
      obtain ⟨a, ha⟩ : ∃ a, (orderF pl 0 (its.map rtIt))[t]? = some a := ⟨_, List.getElem?_eq_getElem (by omega)⟩
      obtain ⟨x, hx, rfl⟩ := h.mem ha
      have hpx := h.ok.place hx
      have hxl := (h.ok.lt x hx).1
      rw [lastP, List.getD_eq_getElem?_getD, ha, Option.getD_some, hpx, Option.getD_some]
      have hix : itF (its.map rtIt) (1 + (x.1 : Int)) = some (rtIt x) := Srt.itF_find (x := rtIt x) h.itids (List.mem_map.2 ⟨x, hx, rfl⟩)
      have hiy : itF (its.map rtIt) (1 + (y.1 : Int)) = some (rtIt y) := Srt.itF_find (x := rtIt y) h.itids (List.mem_map.2 ⟨y, hy, rfl⟩)
      have hlex := Srt.order_lex h.pok 0 h.itids ha ht hix hiy
      rw [show (rtIt x).stop = 60 - 2 * (x.2 : Int) from rfl, show (rtIt y).stop = 60 - 2 * (y.2 : Int) from rfl, h.seatIx hx, h.seatIx hy] at hlex
      rcases hlex with hlex | ⟨he, hlex⟩
      · omega
      · obtain ⟨i, hi⟩ := List.getElem?_of_mem hx
        obtain ⟨j, hj⟩ := List.getElem?_of_mem hy
        have i1 : ix (its.map rtIt) (1 + (x.1 : Int)) = i := Srt.ix_of (x := rtIt x) h.itids (by rw [List.getElem?_map, hi]; rfl)
        have i2 : ix (its.map rtIt) (1 + (y.1 : Int)) = j := Srt.ix_of (x := rtIt y) h.itids (by rw [List.getElem?_map, hj]; rfl)
        rw [i1, i2] at hlex
        obtain ⟨g1, g2⟩ := List.getElem?_eq_some_iff.1 hi
        obtain ⟨g3, g4⟩ := List.getElem?_eq_some_iff.1 hj
        have := List.pairwise_iff_getElem.1 h.ok.pw i j g1 g3 hlex
        rw [g2, g4] at this
        omega
  · rw [lastP, List.getD_eq_getElem?_getD, ht, Option.getD_some, hpy, Option.getD_some]
end
theorem flat_at {α : Type} : ∀ {X : List (List α)} {j i : Nat} {row : List α} {x : α}, X[j]? = some row → row[i]? = some x → X.flatten[((X.take j).flatten).length + i]? = some x
  | [], j, i, row, x, h, _ => by simp at h
  | a :: X, 0, i, row, x, h, hx => by
    simp at h; subst h
    have := (List.getElem?_eq_some_iff.1 hx).1
    rw [List.take_zero, List.flatten_nil, List.length_nil, Nat.zero_add, List.flatten_cons, List.getElem?_append_left this]
    exact hx
  | a :: X, j + 1, i, row, x, h, hx => by
    have h' : X[j]? = some row := by simpa using h
    rw [List.take_succ_cons, List.flatten_cons, List.flatten_cons, List.length_append, Nat.add_assoc, List.getElem?_append_right (by omega), Nat.add_sub_cancel_left]
    exact flat_at h' hx
theorem flat_next {α : Type} {X : List (List α)} {j : Nat} {row : List α} (h : X[j]? = some row) : ((X.take (j + 1)).flatten).length = ((X.take j).flatten).length + row.length := by
  rw [Go.Proofs.Ytkhaemjoekfhiaa.take_snoc h, List.flatten_append, List.length_append]; simp
end Go.Sx.Plt
namespace Go.Sx.Plt
open Go.Proofs.Ytkhaemjoekfhiaa (psF tkF mslF_keys)
/-- What makes records wrong that are put behind those of a plant. -/
structure Odd (p : Plant) (m : Mach) : Prop where
  caps : 1 ≤ m.caps.length
  mid : m.id ∈ p.ms.map Mach.id
  msl : asF m.id (mslF p.ms) = some (m.caps.length : Int)
  ids : ∀ id, id < 15 → asF id (psF (mslF p.ms) p.passes) = none
  tk : ((1 : Int), (0 : Int)) ∉ tkF p.passes
  its : ∀ id, id < 22 → id ∉ p.items.map Item.id
theorem pass1 {p : Plant} {m : Mach} (h : Odd p m) : passOk (mslF p.ms) (psF (mslF p.ms) p.passes) (tkF p.passes) ⟨1, m.id, 0, [], [], []⟩ :=
  ⟨⟨⟨h.ids 1 (by omega), by dsimp only; rw [h.msl]; rfl⟩, ⟨by dsimp only [List.length_nil]; decide, by dsimp only [List.length_nil]; decide⟩, by dsimp only [List.length_nil]; decide, by dsimp only [List.length_nil]; decide⟩, trivial, ⟨by dsimp only [List.length_nil]; decide, by dsimp only [List.length_nil]; decide⟩, trivial⟩
/-! ## where things are, with one item more -/
end Go.Sx.Plt
namespace Go.Proofs.Ytkhaemjoekfhiaa
open Go Go.Sx Go.RowKit
section
variable {r : Option Nat} {P : Program} {n : Nat} {D : List Deferred} {w0 : World} {F : List (Nat × Value)} {L : List Ent} {Q : Exit → Act → World → Prop} {ops : Array Oper}
variable {d : Tmp} {ty : TypeId} {pos : String} {af : Array Edge} {rest : List Oper}
theorem o_rem8E {x y : Operand} {m l v : Int} {t u : TypeId} (hx : ev F x = some (.int .u8 m)) (hy : ev F y = some (.int .u8 l)) (e : m % l = v) (hr : 0 ≤ m ∧ 0 < l) (hd : Nat.ble (d + 1) n = true)
    (h : St n D w0 ((d, .int .u8 v) :: F) L (WL r P ops Q rest)) : St n D w0 F L (WL r P ops Q (⟨some d, .binOp .rem t x y u, ty, pos, af, none⟩ :: rest)) :=
  o_rem_w hx hy hd (by omega) (by rw [Int.tmod_eq_emod_of_nonneg hr.1, e]; exact h)
end
attribute [local irreducible] WL WC WQ WR WB WF QB St Exit.then Exit.inBlock Exit.noGoto bodyPost roundPost beginK YR RG BM Calls B AgainD MeetD
/-! ## PlantKeeps -/
end Go.Proofs.Ytkhaemjoekfhiaa
namespace Go.Proofs.Ytkhaemjoekfhiaa
open Go Go.Sx Go.RowKit
attribute [local irreducible] WL WC WQ WR WB WF QB St Exit.then Exit.inBlock Exit.noGoto bodyPost roundPost beginK YR RG BM Calls B AgainD MeetD
/-! ## rows with one more -/
def R2 {α β : Type} (R : World → α → β → Prop) (xs : List α) (ys : List β) (w : World) : Prop := ∀ (i : Nat) (a : α) (b : β), xs[i]? = some a → ys[i]? = some b → R w a b
theorem shw_nil2 {α β : Type} {R : World → α → β → Prop} {N : List Ent} : Shw N (R2 R [] []) := fun _ _ _ _ _ _ i a b h _ => by simp at h
theorem shw_cons2 {α β : Type} {R : World → α → β → Prop} {x : α} {y : β} {xs : List α} {ys : List β} {N N' : List Ent} (h : Shw N (fun w => R w x y)) (h' : Shw N' (R2 R xs ys)) : Shw (N ++ N') (R2 R (x :: xs) (y :: ys)) :=
  fun w0 w L L0 hr hw i a b ha hb => by
    cases i with
    | zero => cases ha; cases hb; exact (Shw.left h) w0 w L L0 hr hw
    | succ i => exact (Shw.right h') w0 w L L0 hr hw i a b (by simpa using ha) (by simpa using hb)
theorem shw_lit {α : Type} {k n b : Nat} {e : TypeId} {enc : α → List Value} {l : List Value} (xs : List α) (henc : ∀ x, (enc x).length = k) (hl : l = xs.flatMap enc) (hn : n = xs.length) (hb : n ≤ 9223372036854775807) : Shw [⟨b, Ce l e, true⟩] (fun w => SV w k enc (.slice (some ⟨b, 0, none⟩) n n) xs) :=
  fun w0 w L L0 hr hw => by
    subst hl hn
    have hwp : Rep w0 w ([⟨b, Ce (xs.flatMap enc) e, true⟩] ++ L0) := hw.perm hr
    have := Pat.flat henc xs []
    rw [List.append_nil] at this
    exact SV.of_kn (hwp.ok _ List.mem_cons_self) ⟨Nat.le_refl _, hb⟩ this
section
variable {p : Plt.Plant} {am ai ap : Option Addr} {cm ci cp : Nat} {ds : List MD} {ys : List PD} {NM NI NP NX : List Ent}
end
/-- What stands behind the choice of the record that is wrong. -/
structure WSt where
  d : PlD
  q : Plt.Plant
  pos : Nat
  want : Int
  N : List Ent
structure WOk (s : WSt) : Prop where
  show_ : Shw s.N (fun w => PlV w s.d s.q)
  val : Plt.validF s.q = (s.pos, s.want)
  want : s.want ≠ 0
  own : ∀ x ∈ s.N, x.own = true
/-! ## PlantWrong -/
end Go.Proofs.Ytkhaemjoekfhiaa
