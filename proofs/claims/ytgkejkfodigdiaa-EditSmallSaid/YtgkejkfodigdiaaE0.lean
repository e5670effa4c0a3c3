/- Distances of texts, scripts, paths: plain laws, no program in sight. -/
import Derived.WalkKit
set_option linter.unusedSimpArgs false
set_option linter.unusedVariables false
namespace Go.Sx.Edit
abbrev T := List UInt8
structure Cs where
  ins : Int
  del : Int
  chg : Int
  swp : Int
structure Op where
  kind : Int
  byte : Int
deriving DecidableEq
/-- The costs are within their limits. -/
def Cs.ok (c : Cs) : Prop := (1 ≤ c.ins ∧ c.ins ≤ 1000) ∧ (1 ≤ c.del ∧ c.del ≤ 1000) ∧ (1 ≤ c.chg ∧ c.chg ≤ 1000) ∧ (1 ≤ c.swp ∧ c.swp ≤ 1000)
def swp2 : T → T → Bool
  | x :: x' :: _, y :: y' :: _ => decide (x = y' ∧ x' = y ∧ x ≠ x')
  | _, _ => false
def ok : Nat → T → T → Bool
  | 1, x :: _, y :: _ => decide (x = y)
  | 2, x :: _, y :: _ => decide (x ≠ y)
  | 3, a, b => swp2 a b
  | 4, _ :: _, _ => true
  | 5, _, _ :: _ => true
  | _, _, _ => false
def tk : Nat → Nat
  | 1 => 1
  | 2 => 1
  | 3 => 2
  | 4 => 1
  | _ => 0
def wr : Nat → Nat
  | 1 => 1
  | 2 => 1
  | 3 => 2
  | 5 => 1
  | _ => 0
def pr (c : Cs) : Nat → Int
  | 1 => 0
  | 2 => c.chg
  | 3 => c.swp
  | 4 => c.del
  | 5 => c.ins
  | _ => 0
def hd : T → Int
  | [] => 0
  | y :: _ => y.toNat
def opB (k : Nat) (b : T) : Int := if k = 2 ∨ k = 5 then hd b else 0
def D (c : Cs) : T → T → Int
  | [], b => b.length * c.ins
  | x :: a, [] => ((a.length + 1 : Nat) : Int) * c.del
  | x :: a, y :: b =>
    if swp2 (x :: a) (y :: b) then min (min (min (D c a b + (if x = y then 0 else c.chg)) (D c a (y :: b) + c.del)) (D c (x :: a) b + c.ins)) (D c (a.drop 1) (b.drop 1) + c.swp)
    else min (min (D c a b + (if x = y then 0 else c.chg)) (D c a (y :: b) + c.del)) (D c (x :: a) b + c.ins)
termination_by a b => a.length + b.length
decreasing_by all_goals (simp <;> omega)

theorem D_nil (c : Cs) (b : T) : D c [] b = b.length * c.ins := by rw [D]
theorem D_nil' (c : Cs) (a : T) : D c a [] = a.length * c.del := by
  cases a with
  | nil => rw [D]; simp
  | cons x a => rw [D]; simp
theorem D_cons (c : Cs) (x y : UInt8) (a b : T) : D c (x :: a) (y :: b) = if swp2 (x :: a) (y :: b) then min (min (min (D c a b + (if x = y then 0 else c.chg)) (D c a (y :: b) + c.del)) (D c (x :: a) b + c.ins)) (D c (a.drop 1) (b.drop 1) + c.swp)
    else min (min (D c a b + (if x = y then 0 else c.chg)) (D c a (y :: b) + c.del)) (D c (x :: a) b + c.ins) := by rw [D]

/-- A step of a kind leads to no less than the distance. -/
theorem D_le {c : Cs} {k : Nat} {a b : T} (h : ok k a b = true) : D c a b ≤ pr c k + D c (a.drop (tk k)) (b.drop (wr k)) := by
  match k, a, b, h with
  | 1, x :: a, y :: b, h =>
    have h : x = y := by simpa [ok] using h
    simp only [tk, wr, pr, List.drop_succ_cons, List.drop_zero, D_cons, if_pos h]
    split <;> omega
  | 2, x :: a, y :: b, h =>
    have h : ¬ x = y := by simpa [ok] using h
    simp only [tk, wr, pr, List.drop_succ_cons, List.drop_zero, D_cons, if_neg h]
    split <;> omega
  | 3, x :: x' :: a, y :: y' :: b, h =>
    have h : swp2 (x :: x' :: a) (y :: y' :: b) = true := h
    simp only [tk, wr, pr, List.drop_succ_cons, List.drop_zero, D_cons (x := x) (y := y), h, if_true]
    omega
  | 4, x :: a, [], _ =>
    simp only [tk, wr, pr, List.drop_succ_cons, List.drop_zero, D_nil', List.length_cons, Int.natCast_add, Int.add_mul]
    omega
  | 4, x :: a, y :: b, _ =>
    simp only [tk, wr, pr, List.drop_succ_cons, List.drop_zero, D_cons]
    split <;> omega
  | 5, [], y :: b, _ =>
    simp only [tk, wr, pr, List.drop_succ_cons, List.drop_zero, D_nil, List.length_cons, Int.natCast_add, Int.add_mul]
    omega
  | 5, x :: a, y :: b, _ =>
    simp only [tk, wr, pr, List.drop_succ_cons, List.drop_zero, D_cons]
    split <;> omega
/-- Some step leads to it. -/
theorem D_att (c : Cs) {a b : T} (h : a ≠ [] ∨ b ≠ []) : ∃ k, (1 ≤ k ∧ k ≤ 5) ∧ ok k a b = true ∧ D c a b = pr c k + D c (a.drop (tk k)) (b.drop (wr k)) := by
  match a, b, h with
  | [], y :: b, _ =>
    refine ⟨5, by omega, rfl, ?_⟩
    simp only [tk, wr, pr, List.drop_succ_cons, List.drop_zero, D_nil, List.length_cons, Int.natCast_add, Int.add_mul]
    omega
  | x :: a, [], _ =>
    refine ⟨4, by omega, rfl, ?_⟩
    simp only [tk, wr, pr, List.drop_succ_cons, List.drop_zero, D_nil', List.length_cons, Int.natCast_add, Int.add_mul]
    omega
  | x :: a, y :: b, _ =>
    have h4 : ok 4 (x :: a) (y :: b) = true := rfl
    have h5 : ok 5 (x :: a) (y :: b) = true := rfl
    by_cases he : D c (x :: a) (y :: b) = D c a (y :: b) + c.del
    · exact ⟨4, by omega, rfl, by simp only [tk, wr, pr, List.drop_succ_cons, List.drop_zero]; omega⟩
    by_cases hi : D c (x :: a) (y :: b) = D c (x :: a) b + c.ins
    · exact ⟨5, by omega, rfl, by simp only [tk, wr, pr, List.drop_succ_cons, List.drop_zero]; omega⟩
    by_cases hf : D c (x :: a) (y :: b) = D c a b + (if x = y then 0 else c.chg)
    · by_cases hxy : x = y
      · refine ⟨1, by omega, by simp [ok, hxy], ?_⟩
        rw [if_pos hxy] at hf
        simp only [tk, wr, pr, List.drop_succ_cons, List.drop_zero]; omega
      · refine ⟨2, by omega, by simp [ok, hxy], ?_⟩
        rw [if_neg hxy] at hf
        simp only [tk, wr, pr, List.drop_succ_cons, List.drop_zero]; omega
    · have hD := D_cons c x y a b
      by_cases hs : swp2 (x :: a) (y :: b) = true
      · refine ⟨3, by omega, hs, ?_⟩
        rw [if_pos hs] at hD
        simp only [tk, wr, pr, List.drop_succ_cons]
        omega
      · rw [if_neg hs] at hD
        exfalso; omega
theorem ok_len {k : Nat} {a b : T} (h : ok k a b = true) : (1 ≤ k ∧ k ≤ 5) ∧ tk k ≤ a.length ∧ wr k ≤ b.length ∧ 0 < tk k + wr k := by
  match k, a, b, h with
  | 1, x :: a, y :: b, h => simp [tk, wr]
  | 2, x :: a, y :: b, h => simp [tk, wr]
  | 3, x :: x' :: a, y :: y' :: b, h => simp [tk, wr]
  | 4, x :: a, b, _ => simp [tk, wr]
  | 5, a, y :: b, _ => simp [tk, wr]
theorem pr_ok {c : Cs} (hc : c.ok) (k : Nat) : 0 ≤ pr c k ∧ pr c k ≤ 1000 := by
  unfold Cs.ok at hc
  unfold pr
  split <;> omega
theorem ok_lt {k : Nat} {a b : T} (h : ok k a b = true) : (a.drop (tk k)).length + (b.drop (wr k)).length < a.length + b.length := by
  have := ok_len h
  simp only [List.length_drop]; omega
/-- To follow steps is to come down to nothing. -/
theorem ind {p : T → T → Prop} (h0 : p [] []) (h : ∀ a b, (∀ k, ok k a b = true → p (a.drop (tk k)) (b.drop (wr k))) → (a ≠ [] ∨ b ≠ []) → p a b) (a b : T) : p a b := by
  generalize hn : a.length + b.length = n
  induction n using Nat.strongRecOn generalizing a b with
  | _ n ih =>
    by_cases he : a ≠ [] ∨ b ≠ []
    · exact h a b (fun k hk => ih _ (hn ▸ ok_lt hk) _ _ rfl) he
    · simp only [not_or, Decidable.not_not] at he
      obtain ⟨rfl, rfl⟩ := he
      exact h0
theorem D_bound {c : Cs} (hc : c.ok) (a b : T) : 0 ≤ D c a b ∧ D c a b ≤ a.length * c.del + b.length * c.ins := by
  have hc' := hc
  unfold Cs.ok at hc'
  induction a, b using ind with
  | h0 => rw [D_nil]; simp
  | h a b ih he =>
    constructor
    · obtain ⟨k, _, hk, hD⟩ := D_att c he
      have := (ih k hk).1
      have := (pr_ok hc k).1
      omega
    · cases a with
      | nil => rw [D_nil]; simp
      | cons x a =>
        have := (ih 4 rfl).2
        have h4 := D_le (c := c) (k := 4) (a := x :: a) (b := b) rfl
        simp only [tk, wr, pr, List.drop_succ_cons, List.drop_zero] at this h4
        simp only [List.length_cons, Int.natCast_add, Int.add_mul]
        omega
theorem D_small {c : Cs} (hc : c.ok) {a b : T} (ha : a.length ≤ 60) (hb : b.length ≤ 60) : 0 ≤ D c a b ∧ D c a b ≤ 120000 := by
  have h := D_bound hc a b
  unfold Cs.ok at hc
  have h1 : (a.length : Int) * c.del ≤ 60 * 1000 := Int.mul_le_mul (by omega) (by omega) (by omega) (by omega)
  have h2 : (b.length : Int) * c.ins ≤ 60 * 1000 := Int.mul_le_mul (by omega) (by omega) (by omega) (by omega)
  omega

/-! ## paths -/
/-- The step of kind k is one of the least cost. -/
def best (c : Cs) (k : Nat) (a b : T) : Bool := ok k a b && decide (pr c k + D c (a.drop (tk k)) (b.drop (wr k)) = D c a b)
def firstK (c : Cs) (a b : T) : Nat := if best c 1 a b then 1 else if best c 2 a b then 2 else if best c 3 a b then 3 else if best c 4 a b then 4 else 5
theorem first_spec (c : Cs) {a b : T} (h : a ≠ [] ∨ b ≠ []) : (1 ≤ firstK c a b ∧ firstK c a b ≤ 5) ∧ best c (firstK c a b) a b = true ∧ ∀ k, 1 ≤ k → k < firstK c a b → best c k a b = false := by
  obtain ⟨k, hk, ho, hD⟩ := D_att c h
  have hb : best c k a b = true := by simp [best, ho, hD]
  unfold firstK
  split
  · rename_i h1
    exact ⟨by omega, h1, fun j _ _ => by omega⟩
  rename_i h1
  split
  · rename_i h2
    refine ⟨by omega, h2, fun j _ _ => ?_⟩
    obtain rfl : j = 1 := by omega
    simpa using h1
  rename_i h2
  split
  · rename_i h3
    refine ⟨by omega, h3, fun j _ _ => ?_⟩
    have : j = 1 ∨ j = 2 := by omega
    rcases this with rfl | rfl <;> (simp only [Bool.not_eq_true] at *; assumption)
  rename_i h3
  split
  · rename_i h4
    refine ⟨by omega, h4, fun j _ _ => ?_⟩
    have : j = 1 ∨ j = 2 ∨ j = 3 := by omega
    rcases this with rfl | rfl | rfl <;> (simp only [Bool.not_eq_true] at *; assumption)
  rename_i h4
  have : k = 1 ∨ k = 2 ∨ k = 3 ∨ k = 4 ∨ k = 5 := by omega
  rcases this with rfl | rfl | rfl | rfl | rfl <;> first | exact absurd hb ‹_› | skip
  refine ⟨by omega, hb, fun j _ _ => ?_⟩
  have : j = 1 ∨ j = 2 ∨ j = 3 ∨ j = 4 := by omega
  rcases this with rfl | rfl | rfl | rfl <;> (simp only [Bool.not_eq_true] at *; assumption)
theorem best_ok {c : Cs} {k : Nat} {a b : T} (h : best c k a b = true) : ok k a b = true ∧ pr c k + D c (a.drop (tk k)) (b.drop (wr k)) = D c a b := by simpa [best] using h
def opK (k : Nat) (b : T) : Op := ⟨k, opB k b⟩
def path (c : Cs) (a b : T) : List Op :=
  if h : a ≠ [] ∨ b ≠ [] then opK (firstK c a b) b :: path c (a.drop (tk (firstK c a b))) (b.drop (wr (firstK c a b))) else []
termination_by a.length + b.length
decreasing_by exact ok_lt (best_ok (first_spec c h).2.1).1
theorem path_nil (c : Cs) : path c [] [] = [] := by rw [path]; simp
theorem path_cons (c : Cs) {a b : T} (h : a ≠ [] ∨ b ≠ []) : path c a b = opK (firstK c a b) b :: path c (a.drop (tk (firstK c a b))) (b.drop (wr (firstK c a b))) := by rw [path, dif_pos h]
theorem path_len (c : Cs) (a b : T) : (path c a b).length ≤ a.length + b.length := by
  induction a, b using ind with
  | h0 => rw [path_nil]; simp
  | h a b ih he =>
    rw [path_cons c he]
    have hb := (best_ok (first_spec c he).2.1).1
    have := ih _ hb
    have := ok_lt hb
    simp only [List.length_cons]; omega

/-! ## scripts -/
/-- What a script makes of a text. -/
def apply : T → List Op → Option T
  | [], [] => some []
  | _ :: _, [] => none
  | s, o :: l =>
    if o.kind = 1 then match s with
      | x :: s => if o.byte = 0 then (apply s l).map (x :: ·) else none
      | [] => none
    else if o.kind = 2 then match s with
      | x :: s => if (x.toNat : Int) ≠ o.byte then (apply s l).map (UInt8.ofNat o.byte.toNat :: ·) else none
      | [] => none
    else if o.kind = 3 then match s with
      | x :: x' :: s => if x ≠ x' ∧ o.byte = 0 then (apply s l).map (x' :: x :: ·) else none
      | _ => none
    else if o.kind = 4 then match s with
      | _ :: s => if o.byte = 0 then apply s l else none
      | [] => none
    else if o.kind = 5 then (apply s l).map (UInt8.ofNat o.byte.toNat :: ·)
    else none
def cost (c : Cs) : List Op → Option Int
  | [] => some 0
  | o :: l => if 1 ≤ o.kind ∧ o.kind ≤ 5 then (cost c l).map (pr c o.kind.toNat + ·) else none
def Op.u8 (o : Op) : Prop := (0 ≤ o.kind ∧ o.kind < 256) ∧ (0 ≤ o.byte ∧ o.byte < 256)
theorem ofNat_toNat {b : Int} (h : 0 ≤ b ∧ b < 256) : ((UInt8.ofNat b.toNat).toNat : Int) = b := by
  rw [UInt8.toNat_ofNat']
  omega
theorem toNat_inj {x y : UInt8} : (x.toNat : Int) = y.toNat ↔ x = y := by
  constructor
  · intro h; exact UInt8.toNat_inj.1 (by omega)
  · rintro rfl; rfl
/-- A script's first step is a step of its kind from the text to what it makes of it. -/
theorem apply_step {s t : T} {o : Op} {l : List Op} (hu : o.u8) (h : apply s (o :: l) = some t) : ∃ k : Nat, (1 ≤ k ∧ k ≤ 5) ∧ o = opK k t ∧ ok k s t = true ∧ apply (s.drop (tk k)) l = some (t.drop (wr k)) := by
  obtain ⟨kd, by'⟩ := o
  unfold Op.u8 at hu
  simp only [] at hu
  unfold apply at h
  simp only [] at h
  by_cases h1 : kd = 1
  · subst h1
    rw [if_pos rfl] at h
    cases s with
    | nil => simp at h
    | cons x s =>
      simp only [] at h
      by_cases hb : by' = 0
      · subst hb
        rw [if_pos rfl] at h
        obtain ⟨t', ht, rfl⟩ := Option.map_eq_some_iff.1 h
        exact ⟨1, by omega, by simp [opK, opB], by simp [ok], by simpa [tk, wr] using ht⟩
      · rw [if_neg hb] at h; cases h
  rw [if_neg h1] at h
  by_cases h2 : kd = 2
  · subst h2
    rw [if_pos rfl] at h
    cases s with
    | nil => simp at h
    | cons x s =>
      simp only [] at h
      by_cases hb : (x.toNat : Int) ≠ by'
      · rw [if_pos hb] at h
        obtain ⟨t', ht, rfl⟩ := Option.map_eq_some_iff.1 h
        have he := ofNat_toNat hu.2
        refine ⟨2, by omega, by simp only [opK, opB, hd, or_true, true_or, if_true, he]; rfl, ?_, by simpa [tk, wr] using ht⟩
        simp only [ok, decide_eq_true_eq]
        intro e; rw [e] at hb; exact hb he
      · rw [if_neg hb] at h; cases h
  rw [if_neg h2] at h
  by_cases h3 : kd = 3
  · subst h3
    rw [if_pos rfl] at h
    match s, h with
    | x :: x' :: s, h =>
      simp only [] at h
      by_cases hb : x ≠ x' ∧ by' = 0
      · rw [if_pos hb] at h
        obtain ⟨t', ht, rfl⟩ := Option.map_eq_some_iff.1 h
        exact ⟨3, by omega, by simp [opK, opB, hb.2], by simp [ok, swp2, hb.1], by simpa [tk, wr] using ht⟩
      · rw [if_neg hb] at h; cases h
  rw [if_neg h3] at h
  by_cases h4 : kd = 4
  · subst h4
    rw [if_pos rfl] at h
    cases s with
    | nil => simp at h
    | cons x s =>
      simp only [] at h
      by_cases hb : by' = 0
      · subst hb
        rw [if_pos rfl] at h
        exact ⟨4, by omega, by simp [opK, opB], rfl, by simpa [tk, wr] using h⟩
      · rw [if_neg hb] at h; cases h
  rw [if_neg h4] at h
  by_cases h5 : kd = 5
  · subst h5
    rw [if_pos rfl] at h
    obtain ⟨t', ht, rfl⟩ := Option.map_eq_some_iff.1 h
    have he := ofNat_toNat hu.2
    exact ⟨5, by omega, by simp only [opK, opB, hd, or_true, true_or, if_true, he]; rfl, rfl, by simpa [tk, wr] using ht⟩
  · rw [if_neg h5] at h; cases h
theorem apply_nil {s t : T} (h : apply s [] = some t) : s = [] ∧ t = [] := by
  cases s with
  | nil => simp [apply] at h; exact ⟨rfl, h⟩
  | cons x s => simp [apply] at h
/-- No script costs less than the distance. -/
theorem least {c : Cs} : ∀ (l : List Op) (s t : T), (∀ o ∈ l, o.u8) → apply s l = some t → ∀ n, cost c l = some n → D c s t ≤ n
  | [], s, t, _, h, n, hn => by
    obtain ⟨rfl, rfl⟩ := apply_nil h
    simp [cost] at hn; subst hn
    rw [D_nil]; simp
  | o :: l, s, t, hu, h, n, hn => by
    obtain ⟨k, hk, rfl, hok, hap⟩ := apply_step (hu _ List.mem_cons_self) h
    have hk2 : (1 : Int) ≤ k ∧ (k : Int) ≤ 5 := by omega
    simp only [cost, opK, hk2, and_self, if_true, Int.toNat_natCast] at hn
    obtain ⟨m, hm, rfl⟩ := Option.map_eq_some_iff.1 hn
    have := least l _ _ (fun o ho => hu o (List.mem_cons_of_mem _ ho)) hap m hm
    have := D_le (c := c) hok
    omega
theorem apply_cons {k : Nat} {s t : T} {l : List Op} (h : ok k s t = true) (hl : apply (s.drop (tk k)) l = some (t.drop (wr k))) : apply s (opK k t :: l) = some t := by
  match k, s, t, h with
  | 1, x :: a, y :: b, h =>
    have h : x = y := by simpa [ok] using h
    simp only [tk, wr, List.drop_succ_cons, List.drop_zero] at hl
    simp [apply, opK, opB, hl, h]
  | 2, x :: a, y :: b, h =>
    have h : ¬ x = y := by simpa [ok] using h
    have h' : ¬ (x.toNat : Int) = y.toNat := fun e => h (toNat_inj.1 e)
    simp only [tk, wr, List.drop_succ_cons, List.drop_zero] at hl
    simp [apply, opK, opB, hd, hl, h']
  | 3, x :: x' :: a, y :: y' :: b, h =>
    have h : x = y' ∧ x' = y ∧ ¬ x = x' := by simpa [ok, swp2] using h
    obtain ⟨rfl, rfl, hne⟩ := h
    simp only [tk, wr, List.drop_succ_cons, List.drop_zero] at hl
    simp [apply, opK, opB, hl]
    exact hne
  | 4, x :: a, b, _ =>
    simp only [tk, wr, List.drop_succ_cons, List.drop_zero] at hl
    simp [apply, opK, opB, hl]
  | 5, a, y :: b, _ =>
    simp only [tk, wr, List.drop_succ_cons, List.drop_zero] at hl
    cases a <;> simp [apply, opK, opB, hd, hl]
theorem path_apply (c : Cs) (a b : T) : apply a (path c a b) = some b := by
  induction a, b using ind with
  | h0 => rw [path_nil]; rfl
  | h a b ih he =>
    rw [path_cons c he]
    have hb := (best_ok (first_spec c he).2.1).1
    exact apply_cons hb (ih _ hb)
theorem path_cost (c : Cs) (a b : T) : cost c (path c a b) = some (D c a b) := by
  induction a, b using ind with
  | h0 => rw [path_nil, D_nil]; simp [cost]
  | h a b ih he =>
    rw [path_cons c he]
    obtain ⟨hb, hD⟩ := best_ok (first_spec c he).2.1
    have hk := (first_spec c he).1
    have hk2 : (1 : Int) ≤ (firstK c a b : Nat) ∧ ((firstK c a b : Nat) : Int) ≤ 5 := by omega
    simp only [cost, opK, hk2, and_self, if_true, Int.toNat_natCast, ih _ hb, Option.map_some, hD]
/-- The kinds of p come before those of l, or are the same. -/
def before : List Op → List Op → Prop
  | [], _ => True
  | _ :: _, [] => False
  | p :: ps, l :: ls => p.kind < l.kind ∨ p.kind = l.kind ∧ before ps ls
theorem path_before {c : Cs} : ∀ (l : List Op) (s t : T), (∀ o ∈ l, o.u8) → apply s l = some t → cost c l = some (D c s t) → before (path c s t) l
  | [], s, t, _, h, _ => by
    obtain ⟨rfl, rfl⟩ := apply_nil h
    rw [path_nil]; trivial
  | o :: l, s, t, hu, h, hn => by
    obtain ⟨k, hk, rfl, hok, hap⟩ := apply_step (hu _ List.mem_cons_self) h
    have hul := fun o ho => hu o (List.mem_cons_of_mem _ ho)
    have he : s ≠ [] ∨ t ≠ [] := by
      have := ok_len hok
      rcases s with _ | ⟨x, s⟩
      · rcases t with _ | ⟨y, t⟩
        · simp at this; omega
        · simp
      · simp
    have hk2 : (1 : Int) ≤ k ∧ (k : Int) ≤ 5 := by omega
    simp only [cost, opK, hk2, and_self, if_true, Int.toNat_natCast] at hn
    obtain ⟨m, hm, hD⟩ := Option.map_eq_some_iff.1 hn
    have h1 := least l _ _ hul hap m hm
    have h2 := D_le (c := c) hok
    have hbest : best c k s t = true := by
      simp only [best, hok, Bool.true_and, decide_eq_true_eq]; omega
    rw [path_cons c he]
    have hf := first_spec c he
    by_cases hlt : k < firstK c s t
    · rw [hf.2.2 k hk.1 hlt] at hbest; cases hbest
    by_cases heq : firstK c s t = k
    · refine .inr ⟨by simp [opK, heq], ?_⟩
      rw [heq]
      exact path_before l _ _ hul hap (by rw [hm]; congr 1; omega)
    · exact .inl (by simp only [opK]; omega)

/-! ## exchanged, backwards, joined -/
def Cs.flip (c : Cs) : Cs := { c with ins := c.del, del := c.ins }
def fl : Nat → Nat
  | 4 => 5
  | 5 => 4
  | k => k
theorem swp2_comm (a b : T) : swp2 a b = swp2 b a := by
  match a, b with
  | x :: x' :: a, y :: y' :: b =>
    simp only [swp2]
    congr 1
    apply propext
    constructor
    · rintro ⟨rfl, rfl, h⟩; exact ⟨rfl, rfl, fun e => h e.symm⟩
    · rintro ⟨rfl, rfl, h⟩; exact ⟨rfl, rfl, fun e => h e.symm⟩
  | [], [] => rfl
  | [], [_] => rfl
  | [], _ :: _ :: _ => rfl
  | [_], [] => rfl
  | [_], [_] => rfl
  | [_], _ :: _ :: _ => rfl
  | _ :: _ :: _, [] => rfl
  | _ :: _ :: _, [_] => rfl
theorem ok_flip {k : Nat} {a b : T} (h : ok k a b = true) (c : Cs) : ok (fl k) b a = true ∧ tk (fl k) = wr k ∧ wr (fl k) = tk k ∧ pr c.flip (fl k) = pr c k := by
  match k, a, b, h with
  | 1, x :: a, y :: b, h =>
    have h : x = y := by simpa [ok] using h
    exact ⟨by simp [ok, fl, h], rfl, rfl, rfl⟩
  | 2, x :: a, y :: b, h =>
    have h : ¬ x = y := by simpa [ok] using h
    exact ⟨by simp [ok, fl]; exact fun e => h e.symm, rfl, rfl, rfl⟩
  | 3, a, b, h => exact ⟨by simpa [ok, fl, swp2_comm b a] using h, rfl, rfl, rfl⟩
  | 4, x :: a, b, _ => exact ⟨rfl, rfl, rfl, rfl⟩
  | 5, a, y :: b, _ => exact ⟨rfl, rfl, rfl, rfl⟩
theorem D_flip_le (c : Cs) (a b : T) : D c.flip b a ≤ D c a b := by
  induction a, b using ind with
  | h0 => rw [D_nil, D_nil]; simp
  | h a b ih he =>
    obtain ⟨k, _, hk, hD⟩ := D_att c he
    obtain ⟨h1, h2, h3, h4⟩ := ok_flip hk c
    have := D_le (c := c.flip) h1
    have := ih k hk
    rw [h2, h3] at *
    omega
theorem D_flip (c : Cs) (a b : T) : D c.flip b a = D c a b := by
  have h1 := D_flip_le c a b
  have h2 := D_flip_le c.flip b a
  have : c.flip.flip = c := rfl
  rw [this] at h2
  omega
theorem ok_app {k : Nat} {a b : T} (h : ok k a b = true) (x y : T) : ok k (a ++ x) (b ++ y) = true := by
  match k, a, b, h with
  | 1, u :: a, v :: b, h => exact h
  | 2, u :: a, v :: b, h => exact h
  | 3, u :: u' :: a, v :: v' :: b, h => exact h
  | 4, u :: a, b, _ => rfl
  | 5, [], v :: b, _ => cases x <;> rfl
  | 5, u :: a, v :: b, _ => rfl
theorem joined (c : Cs) (a b x y : T) : D c (a ++ x) (b ++ y) ≤ D c a b + D c x y := by
  induction a, b using ind with
  | h0 => rw [D_nil c []]; simp
  | h a b ih he =>
    obtain ⟨k, _, hk, hD⟩ := D_att c he
    have hl := ok_len hk
    have h1 := D_le (c := c) (ok_app hk x y)
    have h2 := ih k hk
    rw [List.drop_append_of_le_length hl.2.1, List.drop_append_of_le_length hl.2.2.1] at h1
    omega
theorem ok_rev {k : Nat} {a b : T} (h : ok k a b = true) : ok k (a.take (tk k)).reverse (b.take (wr k)).reverse = true := by
  match k, a, b, h with
  | 1, u :: a, v :: b, h => simpa [ok, tk, wr] using h
  | 2, u :: a, v :: b, h => simpa [ok, tk, wr] using h
  | 3, u :: u' :: a, v :: v' :: b, h =>
    have h : u = v' ∧ u' = v ∧ ¬ u = u' := by simpa [ok, swp2] using h
    obtain ⟨rfl, rfl, hne⟩ := h
    simp [ok, tk, wr, swp2]
    exact fun e => hne e.symm
  | 4, u :: a, b, _ => rfl
  | 5, [], v :: b, _ => rfl
  | 5, u :: a, v :: b, _ => rfl
theorem D_rev_le (c : Cs) (a b : T) : D c a.reverse b.reverse ≤ D c a b := by
  induction a, b using ind with
  | h0 => exact Int.le_refl _
  | h a b ih he =>
    obtain ⟨k, _, hk, hD⟩ := D_att c he
    have h1 := D_le (c := c) (ok_rev hk)
    have hl := ok_len hk
    rw [List.drop_of_length_le (by simp; omega), List.drop_of_length_le (by simp; omega), D_nil] at h1
    have h2 := ih k hk
    have h3 := joined c (a.drop (tk k)).reverse (b.drop (wr k)).reverse (a.take (tk k)).reverse (b.take (wr k)).reverse
    rw [← List.reverse_append, ← List.reverse_append, List.take_append_drop, List.take_append_drop] at h3
    simp only [List.length_nil, Int.natCast_zero, Int.zero_mul] at h1
    omega
theorem D_rev (c : Cs) (a b : T) : D c a.reverse b.reverse = D c a b := by
  have h1 := D_rev_le c a b
  have h2 := D_rev_le c a.reverse b.reverse
  rw [List.reverse_reverse, List.reverse_reverse] at h2
  omega
theorem D_self {c : Cs} (hc : c.ok) (a : T) : D c a a = 0 := by
  induction a with
  | nil => rw [D_nil]; simp
  | cons x a ih =>
    have h := D_le (c := c) (k := 1) (a := x :: a) (b := x :: a) (by simp [ok])
    simp only [tk, wr, pr, List.drop_succ_cons, List.drop_zero] at h
    have := (D_bound hc (x :: a) (x :: a)).1
    omega
theorem D_zero {c : Cs} (hc : c.ok) {a b : T} (h : D c a b = 0) : a = b := by
  induction a, b using ind with
  | h0 => rfl
  | h a b ih he =>
    obtain ⟨k, hk5, hk, hD⟩ := D_att c he
    have h0 := (D_bound hc (a.drop (tk k)) (b.drop (wr k))).1
    unfold Cs.ok at hc
    match k, a, b, hk with
    | 1, u :: a, v :: b, hk =>
      have : u = v := by simpa [ok] using hk
      have := ih 1 hk (by simp only [pr] at hD; omega)
      simp only [tk, wr, List.drop_succ_cons, List.drop_zero] at this
      rw [this, ‹u = v›]
    | 2, u :: a, v :: b, hk => simp only [pr] at hD; omega
    | 3, a, b, hk => simp only [pr] at hD; omega
    | 4, u :: a, b, hk => simp only [pr] at hD; omega
    | 5, a, v :: b, hk => simp only [pr] at hD; omega

/-! ## greater costs -/
def Cs.le (c d : Cs) : Prop := c.ins ≤ d.ins ∧ c.del ≤ d.del ∧ c.chg ≤ d.chg ∧ c.swp ≤ d.swp
theorem pr_le {c d : Cs} (h : c.le d) (k : Nat) : pr c k ≤ pr d k := by
  unfold Cs.le at h
  unfold pr
  split <;> omega
theorem D_mono {c d : Cs} (h : c.le d) (a b : T) : D c a b ≤ D d a b := by
  induction a, b using ind with
  | h0 => rw [D_nil, D_nil]; simp
  | h a b ih he =>
    obtain ⟨k, _, hk, hD⟩ := D_att d he
    have := D_le (c := c) hk
    have := ih k hk
    have := pr_le h k
    omega
theorem hd_u8 (b : T) : 0 ≤ hd b ∧ hd b < 256 := by
  cases b with
  | nil => simp [hd]
  | cons y b => simp only [hd]; have := y.toNat_lt; omega
theorem opK_u8 {k : Nat} (hk : k ≤ 5) (b : T) : (opK k b).u8 := by
  have := hd_u8 b
  unfold Op.u8 opK opB
  simp only []
  split <;> omega
theorem path_mem {c : Cs} {a b : T} : ∀ o ∈ path c a b, o.u8 ∧ (1 ≤ o.kind ∧ o.kind ≤ 5) ∧ (o.byte ≠ 0 → o.kind = 2 ∨ o.kind = 5) := by
  induction a, b using ind with
  | h0 => rw [path_nil]; simp
  | h a b ih he =>
    rw [path_cons c he]
    have hf := first_spec c he
    intro o ho
    rcases List.mem_cons.1 ho with rfl | ho
    · refine ⟨opK_u8 hf.1.2 b, by simp only [opK]; omega, fun h => ?_⟩
      simp only [opK, opB] at h ⊢
      split at h
      · omega
      · exact absurd rfl h
    · exact ih _ (best_ok hf.2.1).1 o ho
theorem D_price {c d : Cs} {a b : T} {n : Int} (h : cost d (path c a b) = some n) : D d a b ≤ n :=
  least _ _ _ (fun o ho => (path_mem o ho).1) (path_apply c a b) n h
theorem cost_ok {c : Cs} : ∀ {l : List Op}, (∀ o ∈ l, 1 ≤ o.kind ∧ o.kind ≤ 5) → ∃ n, cost c l = some n
  | [], _ => ⟨0, rfl⟩
  | o :: l, h => by
    obtain ⟨n, hn⟩ := cost_ok (c := c) (l := l) (fun o ho => h o (List.mem_cons_of_mem _ ho))
    exact ⟨_, by rw [cost, if_pos (h o List.mem_cons_self), hn]; rfl⟩

/-! ## how many of each kind -/
def cnt (k : Int) (l : List Op) : Nat := l.countP (fun o => decide (o.kind = k))
theorem cnt_cons (k : Int) (o : Op) (l : List Op) : cnt k (o :: l) = cnt k l + (if o.kind = k then 1 else 0) := by
  simp [cnt, List.countP_cons]
theorem counts : ∀ (l : List Op) (s t : T), (∀ o ∈ l, o.u8) → apply s l = some t →
    cnt 1 l + cnt 2 l + 2 * cnt 3 l + cnt 4 l = s.length ∧ cnt 1 l + cnt 2 l + 2 * cnt 3 l + cnt 5 l = t.length
  | [], s, t, _, h => by
    obtain ⟨rfl, rfl⟩ := apply_nil h
    simp [cnt]
  | o :: l, s, t, hu, h => by
    obtain ⟨k, hk, rfl, hok, hap⟩ := apply_step (hu _ List.mem_cons_self) h
    have ih := counts l _ _ (fun o ho => hu o (List.mem_cons_of_mem _ ho)) hap
    have hl := ok_len hok
    simp only [List.length_drop] at ih
    simp only [cnt_cons, opK]
    have : k = 1 ∨ k = 2 ∨ k = 3 ∨ k = 4 ∨ k = 5 := by omega
    rcases this with rfl | rfl | rfl | rfl | rfl <;> simp [tk, wr] at ih hl ⊢ <;> omega
theorem cost_counts {c : Cs} : ∀ {l : List Op} {n : Int}, cost c l = some n → (cnt 2 l : Int) * c.chg + (cnt 3 l : Int) * c.swp + (cnt 4 l : Int) * c.del + (cnt 5 l : Int) * c.ins = n
  | [], n, h => by simp [cost] at h; subst h; simp [cnt]
  | o :: l, n, h => by
    rw [cost] at h
    split at h
    · rename_i hk
      obtain ⟨m, hm, rfl⟩ := Option.map_eq_some_iff.1 h
      have ih := cost_counts hm
      simp only [cnt_cons]
      have : o.kind = 1 ∨ o.kind = 2 ∨ o.kind = 3 ∨ o.kind = 4 ∨ o.kind = 5 := by omega
      rcases this with e | e | e | e | e <;> rw [e] <;> simp [pr, Int.add_mul] <;> omega
    · cases h
def ones : Cs := ⟨1, 1, 1, 1⟩
theorem ones_ok : ones.ok := by simp [Cs.ok, ones]
theorem pr_ones (k : Nat) : 0 ≤ pr ones k ∧ pr ones k ≤ 1 := by
  unfold pr
  split <;> simp [ones]
theorem D_ones_ge (a b : T) : (a.length : Int) - b.length ≤ D ones a b ∧ (b.length : Int) - a.length ≤ D ones a b := by
  induction a, b using ind with
  | h0 => rw [D_nil]; simp
  | h a b ih he =>
    obtain ⟨k, hk5, hk, hD⟩ := D_att ones he
    have h1 := ih k hk
    have hl := ok_len hk
    simp only [List.length_drop] at h1
    have : k = 1 ∨ k = 2 ∨ k = 3 ∨ k = 4 ∨ k = 5 := by omega
    rcases this with rfl | rfl | rfl | rfl | rfl <;> simp only [tk, wr, pr, ones] at h1 hl hD ⊢ <;> omega
theorem D_ones_le : ∀ a b : T, D ones a b ≤ max (a.length : Int) b.length
  | [], b => by rw [D_nil]; simp [ones]
  | x :: a, [] => by rw [D_nil']; simp [ones] <;> omega
  | x :: a, y :: b => by
    have ih := D_ones_le a b
    have h : D ones (x :: a) (y :: b) ≤ 1 + D ones a b := by
      rw [D_cons]
      have h1 : (if x = y then (0 : Int) else ones.chg) ≤ 1 := by split <;> simp [ones]
      split <;> omega
    simp only [List.length_cons, Int.natCast_add]
    omega
theorem D_all (c : Cs) (hc : c.ok) (a b : T) : D c a b ≤ a.length * c.del + b.length * c.ins := (D_bound hc a b).2
end Go.Sx.Edit
