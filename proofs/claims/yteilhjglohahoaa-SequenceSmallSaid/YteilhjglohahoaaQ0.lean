/- Routes, plans, runs: plain laws, no program in sight. -/
import Derived.WalkKit
set_option linter.unusedSimpArgs false
set_option linter.unusedVariables false
namespace Go.Sx.Seq
structure Stop where
  id : Int
  vol : Int
deriving DecidableEq
structure Seat where
  stop : Int
  vol : Int
  first : Int
  second : Int
deriving DecidableEq
structure Plan where
  caps : List Int
  seats : List Seat
  first : List Int
  second : List Int
deriving DecidableEq
def Plan.zero : Plan := ⟨[], [], [], []⟩
/-! ## machines, routes -/
def machineOk (caps : List Int) : Prop := (1 ≤ caps.length ∧ caps.length ≤ 64) ∧ ∀ c ∈ caps, 1 ≤ c ∧ c ≤ 100000
instance (caps : List Int) : Decidable (machineOk caps) := by unfold machineOk; infer_instance
def Stop.ok (s : Stop) : Prop := (1 ≤ s.id ∧ s.id ≤ 999999) ∧ (1 ≤ s.vol ∧ s.vol ≤ 10000)
instance (s : Stop) : Decidable s.ok := by unfold Stop.ok; infer_instance
/-- The index of the first stop that is not valid, or has the ID of an earlier one. -/
def wrongF : List Int → Nat → List Stop → Option Nat
  | _, _, [] => none
  | met, i, s :: r => if s.ok ∧ s.id ∉ met then wrongF (met ++ [s.id]) (i + 1) r else some i
/-- These stops are a route behind those that were met. -/
def routeFrom (met : List Int) (l : List Stop) : Prop := (∀ s ∈ l, s.ok) ∧ (l.map Stop.id).Nodup ∧ ∀ s ∈ l, s.id ∉ met
theorem wrongF_none : ∀ {l : List Stop} {met : List Int} {i : Nat}, wrongF met i l = none ↔ routeFrom met l
  | [], met, i => by simp [wrongF, routeFrom]
  | s :: r, met, i => by
    rw [wrongF]
    by_cases h : s.ok ∧ s.id ∉ met
    · rw [if_pos h, wrongF_none]
      unfold routeFrom
      simp only [List.mem_cons, List.map_cons, List.nodup_cons, List.mem_append, List.mem_singleton, List.mem_map, List.not_mem_nil, or_false]
      constructor
      · rintro ⟨h1, h2, h3⟩
        refine ⟨?_, ⟨?_, h2⟩, ?_⟩
        · rintro x (rfl | hx)
          · exact h.1
          · exact h1 x hx
        · rintro ⟨x, hx, e⟩
          exact h3 x hx (.inr e)
        · rintro x (rfl | hx)
          · exact h.2
          · exact fun g => h3 x hx (.inl g)
      · rintro ⟨h1, ⟨h2, h3⟩, h4⟩
        refine ⟨fun x hx => h1 x (.inr hx), h3, fun x hx => ?_⟩
        rintro (g | g)
        · exact h4 x (.inr hx) g
        · exact h2 ⟨x, hx, g⟩
    · rw [if_neg h]
      constructor
      · intro g; cases g
      · rintro ⟨h1, _, h3⟩
        exact absurd ⟨h1 s List.mem_cons_self, h3 s List.mem_cons_self⟩ h
theorem wrongF_ge : ∀ {l : List Stop} {met : List Int} {i k : Nat}, wrongF met i l = some k → i ≤ k ∧ k < i + l.length
  | [], met, i, k, h => by cases h
  | s :: r, met, i, k, h => by
    rw [wrongF] at h
    split at h
    · have := wrongF_ge h
      simp only [List.length_cons]; omega
    · cases h; simp only [List.length_cons]; omega
/-! ## loads -/
def addAt (l : List Int) (k : Nat) (v : Int) : List Int := l.set k (l.getD k 0 + v)
theorem addAt_len (l : List Int) (k : Nat) (v : Int) : (addAt l k v).length = l.length := by simp [addAt]
def loadsF (g : Seat → Int) (n : Nat) (seats : List Seat) : List Int := seats.foldl (fun l s => addAt l (g s).toNat s.vol) (List.replicate n 0)
theorem loadsF_nil (g : Seat → Int) (n : Nat) : loadsF g n [] = List.replicate n 0 := rfl
theorem loadsF_snoc (g : Seat → Int) (n : Nat) (l : List Seat) (s : Seat) : loadsF g n (l ++ [s]) = addAt (loadsF g n l) (g s).toNat s.vol := by simp [loadsF]
theorem loadsF_len (g : Seat → Int) (n : Nat) (l : List Seat) : (loadsF g n l).length = n := by
  unfold loadsF
  have : ∀ (l : List Seat) (a : List Int), (l.foldl (fun l s => addAt l (g s).toNat s.vol) a).length = a.length := by
    intro l
    induction l with
    | nil => intro a; rfl
    | cons s r ih => intro a; rw [List.foldl_cons, ih, addAt_len]
  rw [this]; simp
/-- The load of one stacker: the sum of its stops' volumes. -/
def loadOf (g : Seat → Int) (k : Nat) : List Seat → Int
  | [] => 0
  | s :: r => (if (g s).toNat = k then s.vol else 0) + loadOf g k r
theorem loadOf_app (g : Seat → Int) (k : Nat) : ∀ (l r : List Seat), loadOf g k (l ++ r) = loadOf g k l + loadOf g k r
  | [], r => by simp [loadOf]
  | s :: l, r => by simp only [List.cons_append, loadOf, loadOf_app g k l r]; omega
theorem foldl_get (g : Seat → Int) (k : Nat) : ∀ (l : List Seat) (a : List Int), k < a.length → (l.foldl (fun l s => addAt l (g s).toNat s.vol) a)[k]? = some (a.getD k 0 + loadOf g k l)
  | [], a, h => by simp [loadOf, h]
  | s :: r, a, h => by
    rw [List.foldl_cons, foldl_get g k r _ (by rw [addAt_len]; exact h)]
    congr 1
    rw [loadOf]
    by_cases e : (g s).toNat = k
    · rw [if_pos e, e, addAt]
      simp [h]; omega
    · rw [if_neg e, addAt]
      simp only [List.getD_eq_getElem?_getD]
      rw [List.getElem?_set_ne e]; omega
theorem loadsF_get (g : Seat → Int) {n k : Nat} (h : k < n) (l : List Seat) : (loadsF g n l)[k]? = some (loadOf g k l) := by
  unfold loadsF
  rw [foldl_get g k l _ (by simpa using h)]
  congr 1
  simp [h]
theorem loadOf_bounds (g : Seat → Int) (k : Nat) : ∀ {l : List Seat}, (∀ s ∈ l, 0 ≤ s.vol ∧ s.vol ≤ 10000) → 0 ≤ loadOf g k l ∧ loadOf g k l ≤ 10000 * l.length
  | [], _ => by simp [loadOf]
  | s :: r, h => by
    have h1 := h s List.mem_cons_self
    have h2 := loadOf_bounds g k (l := r) (fun x hx => h x (List.mem_cons_of_mem _ hx))
    rw [loadOf, List.length_cons]
    split <;> omega
theorem loadsF_eq (g : Seat → Int) (n : Nat) (l : List Seat) : loadsF g n l = (List.range n).map fun k => loadOf g k l := by
  apply List.ext_getElem?
  intro k
  by_cases h : k < n
  · rw [loadsF_get g h]; simp [h]
  · rw [List.getElem?_eq_none (by rw [loadsF_len]; omega), List.getElem?_eq_none (by simp; omega)]
/-- The first stacker with a load above its capacity. -/
def overF : Nat → List Int → List Int → List Int → Option Nat
  | i, c :: cs, f :: fs, s :: ss => if c < f ∨ c < s then some i else overF (i + 1) cs fs ss
  | _, _, _, _ => none
/-! ## the rule for a limit -/
/-- Where a stop goes: the current stacker (its number, how many stops it has, its load), and the capacities from it on. -/
def place (limit : Nat) (v : Int) : Nat → Nat → Int → List Int → Option (Nat × Nat × Int × List Int)
  | _, _, _, [] => none
  | cur, held, load, c :: cs => if held < limit ∧ load + v ≤ c then some (cur, held, load, c :: cs) else place limit v (cur + 1) 0 0 cs
def alongF (limit : Nat) : List Stop → Nat → Nat → Int → List Int → List Seat
  | [], _, _, _, _ => []
  | s :: r, cur, held, load, cs => match place limit s.vol cur held load cs with
    | none => []
    | some (cur', held', load', cs') => ⟨s.id, s.vol, held', cur'⟩ :: alongF limit r cur' (held' + 1) (load' + s.vol) cs'
def rule (limit : Nat) (stops : List Stop) (caps : List Int) : List Seat := alongF limit stops 0 0 0 caps
theorem place_spec {limit : Nat} {v : Int} : ∀ {cs : List Int} {cur held : Nat} {load : Int} {cur' held' : Nat} {load' : Int} {cs' : List Int}, place limit v cur held load cs = some (cur', held', load', cs') →
    held' < limit ∧ cur ≤ cur' ∧ cs' = cs.drop (cur' - cur) ∧ cur' < cur + cs.length ∧ (∃ c, cs[cur' - cur]? = some c ∧ load' + v ≤ c) ∧ ((cur' = cur ∧ held' = held ∧ load' = load) ∨ (cur < cur' ∧ held' = 0 ∧ load' = 0))
  | [], cur, held, load, cur', held', load', cs', h => by cases h
  | c :: cs, cur, held, load, cur', held', load', cs', h => by
    rw [place] at h
    split at h
    · rename_i hc
      cases h
      refine ⟨hc.1, Nat.le_refl _, by simp, by simp, ⟨c, by simp, hc.2⟩, .inl ⟨rfl, rfl, rfl⟩⟩
    · obtain ⟨h1, h2, h3, h4, ⟨c', h5, h6⟩, h7⟩ := place_spec h
      have e : cur' - cur = (cur' - (cur + 1)) + 1 := by omega
      refine ⟨h1, by omega, ?_, by simp only [List.length_cons]; omega, ⟨c', ?_, h6⟩, ?_⟩
      · rw [h3, e]; rfl
      · rw [e]; exact h5
      · right
        rcases h7 with ⟨g1, g2, g3⟩ | ⟨g1, g2, g3⟩
        · exact ⟨by omega, g2, g3⟩
        · exact ⟨by omega, g2, g3⟩
theorem alongF_len {limit : Nat} : ∀ (l : List Stop) (cur held : Nat) (load : Int) (cs : List Int), (alongF limit l cur held load cs).length ≤ l.length
  | [], _, _, _, _ => by simp [alongF]
  | s :: r, cur, held, load, cs => by
    rw [alongF]
    split
    · simp
    · simp only [List.length_cons]
      have := alongF_len (limit := limit) r
      rename_i cur' held' load' cs' _
      have := this cur' (held' + 1) (load' + s.vol) cs'
      omega
theorem alongF_range {limit n : Nat} : ∀ (l : List Stop) (cur held : Nat) (load : Int) (cs : List Int), cur + cs.length = n → ∀ x ∈ alongF limit l cur held load cs,
    (0 ≤ x.first ∧ x.first < limit) ∧ ((cur : Int) ≤ x.second ∧ x.second < n) ∧ ∃ s ∈ l, x.stop = s.id ∧ x.vol = s.vol
  | [], _, _, _, _, _, x, hx => by simp [alongF] at hx
  | s :: r, cur, held, load, cs, hn, x, hx => by
    rw [alongF] at hx
    split at hx
    · cases hx
    · rename_i cur' held' load' cs' hp
      obtain ⟨h1, h2, h3, h4, _, h5⟩ := place_spec hp
      rcases List.mem_cons.1 hx with rfl | hx
      · simp only []
        exact ⟨by omega, by omega, s, List.mem_cons_self, rfl, rfl⟩
      · obtain ⟨g1, g2, t, g3, g4⟩ := alongF_range (n := n) r cur' (held' + 1) (load' + s.vol) cs' (by rw [h3, List.length_drop]; omega) x hx
        exact ⟨g1, by omega, t, List.mem_cons_of_mem _ g3, g4⟩
theorem rule_len (limit : Nat) (l : List Stop) (caps : List Int) : (rule limit l caps).length ≤ l.length := alongF_len _ _ _ _ _
theorem rule_range {limit : Nat} {l : List Stop} {caps : List Int} (hl : limit ≤ caps.length) (hs : ∀ s ∈ l, s.ok) : ∀ x ∈ rule limit l caps, (0 ≤ x.first ∧ x.first < caps.length) ∧ (0 ≤ x.second ∧ x.second < caps.length) ∧ (0 ≤ x.vol ∧ x.vol ≤ 10000) := fun x hx => by
  obtain ⟨h1, h2, s, h3, _, h4⟩ := alongF_range (n := caps.length) l 0 0 0 caps (by simp) x hx
  have := hs s h3
  unfold Stop.ok at this
  refine ⟨by omega, by omega, by omega⟩
def limits (stops : List Stop) (caps : List Int) : Nat → Plan × Int
  | 0 => (.zero, 4)
  | L + 1 =>
    let seats := rule (L + 1) stops caps
    if seats.length < stops.length then limits stops caps L else
    match overF 0 caps (loadsF Seat.first caps.length seats) (loadsF Seat.second caps.length seats) with
    | none => (⟨caps, seats, loadsF Seat.first caps.length seats, loadsF Seat.second caps.length seats⟩, 0)
    | some _ => limits stops caps L
def makeF (stops : List Stop) (caps : List Int) : Plan × Int :=
  if ¬ machineOk caps then (.zero, 280) else
  if 1000 < stops.length then (.zero, 5) else
  match wrongF [] 0 stops with
  | some _ => (.zero, 281)
  | none =>
    if stops = [] then (⟨caps, [], List.replicate caps.length 0, List.replicate caps.length 0⟩, 0) else
    limits stops caps (min caps.length stops.length)
/-! ## Check -/
def misF (n : Nat) : Option Seat → Nat → List Seat → Option Nat
  | _, _, [] => none
  | p, i, s :: r =>
    if ¬ ((0 ≤ s.first ∧ s.first < n) ∧ (0 ≤ s.second ∧ s.second < n)) then some i else
    match p with
    | none => misF n (some s) (i + 1) r
    | some q => if s.second < q.second ∨ (s.second = q.second ∧ s.first ≤ q.first) then some i else misF n (some s) (i + 1) r
theorem misF_in {n : Nat} {p : Option Seat} {i : Nat} {s : Seat} {r : List Seat} (h : ¬ ((0 ≤ s.first ∧ s.first < n) ∧ (0 ≤ s.second ∧ s.second < n))) : misF n p i (s :: r) = some i := by
  unfold misF; rw [if_pos h]
theorem misF_first {n : Nat} {i : Nat} {s : Seat} {r : List Seat} (h : (0 ≤ s.first ∧ s.first < n) ∧ (0 ≤ s.second ∧ s.second < n)) : misF n none i (s :: r) = misF n (some s) (i + 1) r := by
  rw [misF]; rw [if_neg (fun g => g h)]
theorem misF_next {n : Nat} {i : Nat} {q s : Seat} {r : List Seat} (h : (0 ≤ s.first ∧ s.first < n) ∧ (0 ≤ s.second ∧ s.second < n)) : misF n (some q) i (s :: r) = if s.second < q.second ∨ (s.second = q.second ∧ s.first ≤ q.first) then some i else misF n (some s) (i + 1) r := by
  rw [misF]; rw [if_neg (fun g => g h)]
theorem misF_range {n : Nat} : ∀ {l : List Seat} {p : Option Seat} {i : Nat}, misF n p i l = none → ∀ s ∈ l, (0 ≤ s.first ∧ s.first < n) ∧ (0 ≤ s.second ∧ s.second < n)
  | [], _, _, _, s, hs => by cases hs
  | x :: r, p, i, h, s, hs => by
    by_cases hx : (0 ≤ x.first ∧ x.first < n) ∧ (0 ≤ x.second ∧ x.second < n)
    · rcases List.mem_cons.1 hs with rfl | hs
      · exact hx
      · cases p with
        | none => rw [misF_first hx] at h; exact misF_range h s hs
        | some q =>
          rw [misF_next hx] at h
          split at h
          · cases h
          · exact misF_range h s hs
    · rw [misF_in hx] at h; cases h
def Seat.asStop (s : Seat) : Stop := ⟨s.stop, s.vol⟩
/-- The first stacker whose load is not the one that is given. -/
def diffF : Nat → List Int → List Int → List Int → List Int → Option Nat
  | i, f :: fs, s :: ss, f' :: fs', s' :: ss' => if f ≠ f' ∨ s ≠ s' then some i else diffF (i + 1) fs ss fs' ss'
  | _, _, _, _, _ => none
def checkF (p : Plan) : Nat × Int :=
  if ¬ machineOk p.caps then (0, 280) else
  if 1000 < p.seats.length then (0, 5) else
  match wrongF [] 0 (p.seats.map Seat.asStop) with
  | some i => (i, 281)
  | none =>
    match misF p.caps.length none 0 p.seats with
    | some i => (i, 282)
    | none =>
      if p.first.length ≠ p.caps.length ∨ p.second.length ≠ p.caps.length then (0, 283) else
      match diffF 0 p.first p.second (loadsF Seat.first p.caps.length p.seats) (loadsF Seat.second p.caps.length p.seats) with
      | some i => (i, 283)
      | none =>
        match overF 0 p.caps (loadsF Seat.first p.caps.length p.seats) (loadsF Seat.second p.caps.length p.seats) with
        | some i => (i, 4)
        | none => (0, 0)
def findF (l : List Seat) (stop : Int) : Option Seat := l.find? (fun s => s.stop == stop)
/-! ## Sort -/
def feedF (seats : List Seat) : List Int → List Int → Int
  | _, [] => 0
  | fed, x :: r => match findF seats x with
    | none => 6
    | some s => if s.vol ≤ fed.count x then 4 else feedF seats (fed ++ [x]) r
/-- The stackers after a pass: those of the list whose stacker it is. -/
def passF (n : Nat) (key : Nat → Nat) (fed : List Nat) : List (List Nat) := (List.range n).map fun k => fed.filter fun i => key i = k
structure Run where
  first : List (List Nat)
  second : List (List Nat)
  order : List Nat
deriving DecidableEq
def Run.zero : Run := ⟨[], [], []⟩
def keyF (seats : List Seat) (items : List Int) (g : Seat → Int) (i : Nat) : Nat := (((items[i]?).bind (findF seats)).elim 0 g).toNat
def runF (p : Plan) (items : List Int) : Run :=
  let first := passF p.caps.length (keyF p.seats items Seat.first) (List.range items.length)
  let second := passF p.caps.length (keyF p.seats items Seat.second) first.flatten
  ⟨first, second, second.flatten⟩
def sortF (p : Plan) (items : List Int) : Run × Int :=
  if (checkF p).2 ≠ 0 then (.zero, (checkF p).2) else
  if 2000 < items.length then (.zero, 5) else
  if feedF p.seats [] items ≠ 0 then (.zero, feedF p.seats [] items) else
  (runF p items, 0)
end Go.Sx.Seq
