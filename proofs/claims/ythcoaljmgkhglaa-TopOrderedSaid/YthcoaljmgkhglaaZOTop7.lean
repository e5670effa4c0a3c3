/- A part of the proofs of this seat: a small logic of walks, plain laws, and what some of the program's functions compute, shown by walks through their code. Conditions: the hypotheses that each theorem names. -/
import Derived.Test.YthcoaljmgkhglaaZOTop3
import Derived.Test.YthcoaljmgkhglaaZOTop6
import Derived.Test.YthcoaljmgkhglaaZOTop4
set_option linter.unusedSimpArgs false
set_option linter.unusedVariables false
set_option linter.unusedSectionVars false
namespace Go.Sx.Srt
open Go.Sx.Seq (addAt addAt_len)
structure Fd where
  item : Int
  st : Int
deriving DecidableEq
structure Ev where
  kind : Int
  item : Int
  st : Int
deriving DecidableEq
/-- A machine while it is played. -/
structure M where
  stackers : List (List Int)
  swept : List Int
  over : List Int
  rej : List Int
  evs : List Ev
  held : List Int
  left : Int
def M.new (n : Nat) (sweeps : Int) : M := ⟨List.replicate n [], List.replicate n 0, [], [], [], List.replicate n 0, sweeps⟩
def putAt (l : List (List Int)) (k : Nat) (x : Int) : List (List Int) := l.set k (l.getD k [] ++ [x])
theorem putAt_len (l : List (List Int)) (k : Nat) (x : Int) : (putAt l k x).length = l.length := by simp [putAt]
def stack (m : M) (f : Fd) : M := { m with stackers := putAt m.stackers f.st.toNat f.item, held := addAt m.held f.st.toNat 1 }
def note (m : M) (l : List Ev) : M := { m with evs := m.evs ++ l }
def takeF (caps : List Int) (m : M) (f : Fd) : M :=
  if f.st < 0 then note { m with rej := m.rej ++ [f.item] } [⟨4, f.item, -1⟩] else
  if m.held.getD f.st.toNat 0 < caps.getD f.st.toNat 0 then stack (note m [⟨1, f.item, f.st⟩]) f else
  if 0 < m.left then stack (note { m with left := m.left - 1, held := m.held.set f.st.toNat 0, swept := addAt m.swept f.st.toNat 1 } [⟨2, f.item, f.st⟩, ⟨1, f.item, f.st⟩]) f else
  note { m with over := m.over ++ [f.item] } [⟨3, f.item, f.st⟩]
def playF (caps : List Int) (sweeps : Int) (feeds : List Fd) : M := feeds.foldl (takeF caps) (M.new caps.length sweeps)
theorem playF_snoc (caps : List Int) (sweeps : Int) (l : List Fd) (f : Fd) : playF caps sweeps (l ++ [f]) = takeF caps (playF caps sweeps l) f := by simp [playF]
theorem playF_nil (caps : List Int) (sweeps : Int) : playF caps sweeps [] = M.new caps.length sweeps := rfl
/-- What is kept while a machine with n stackers is played, whatever is fed. -/
structure Sz (n : Nat) (m : M) : Prop where
  st : m.stackers.length = n
  sw : m.swept.length = n
  hd : m.held.length = n
theorem Sz.new (n : Nat) (s : Int) : Sz n (M.new n s) := ⟨by simp [M.new], by simp [M.new], by simp [M.new]⟩
theorem Sz.take {n : Nat} {m : M} (h : Sz n m) (caps : List Int) (f : Fd) : Sz n (takeF caps m f) := by
  have h1 := h.st; have h2 := h.sw; have h3 := h.hd
  unfold takeF
  split
  · exact ⟨h1, h2, h3⟩
  · split
    · exact ⟨by simp [stack, note, putAt_len, h1], by simp [stack, note, h2], by simp [stack, note, addAt_len, h3]⟩
    · split
      · exact ⟨by simp [stack, note, putAt_len, h1], by simp [stack, note, addAt_len, h2], by simp [stack, note, addAt_len, h3]⟩
      · exact ⟨h1, h2, h3⟩
theorem playF_sz (caps : List Int) (s : Int) (l : List Fd) : Sz caps.length (playF caps s l) := by
  unfold playF
  have : ∀ (l : List Fd) (m : M), Sz caps.length m → Sz caps.length (l.foldl (takeF caps) m) := by
    intro l
    induction l with
    | nil => exact fun m h => h
    | cons f r ih => exact fun m h => ih _ (h.take caps f)
  exact this l _ (Sz.new _ _)
/-! ## what is rejected -/
def capsOk (caps : List Int) : Prop := (1 ≤ caps.length ∧ caps.length ≤ 64) ∧ ∀ c ∈ caps, 1 ≤ c ∧ c ≤ 100000
instance (caps : List Int) : Decidable (capsOk caps) := by unfold capsOk; infer_instance
def Fd.ok (n : Nat) (f : Fd) : Prop := (1 ≤ f.item ∧ f.item ≤ 999999) ∧ (-1 ≤ f.st ∧ f.st < n)
instance (n : Nat) (f : Fd) : Decidable (f.ok n) := by unfold Fd.ok; infer_instance
/-- Whether some feed is not valid, or has the item of an earlier one. -/
def badF (n : Nat) : List Int → List Fd → Bool
  | _, [] => false
  | met, f :: r => if f.ok n ∧ f.item ∉ met then badF n (met ++ [f.item]) r else true
def fedF (n : Nat) (l : List Fd) : Int := if 2000 < l.length then 5 else if badF n [] l = true then 291 else 0
def runF (caps : List Int) (sweeps : Int) (l : List Fd) : M × Int :=
  if ¬ capsOk caps then (M.new 0 0, 290) else
  if sweeps < 0 ∨ 1000 < sweeps then (M.new 0 0, 2) else
  if fedF caps.length l ≠ 0 then (M.new 0 0, fedF caps.length l) else
  (playF caps sweeps l, 0)
def needF (caps : List Int) (l : List Fd) : Int × Int :=
  if ¬ capsOk caps then (0, 290) else
  if fedF caps.length l ≠ 0 then (0, fedF caps.length l) else
  ((playF caps l.length l).swept.sum, 0)
/-- Feeds that are valid. -/
structure FdsOk (n : Nat) (l : List Fd) : Prop where
  ok : ∀ f ∈ l, f.ok n
  nd : (l.map Fd.item).Nodup
  len : l.length ≤ 2000
theorem badF_false {n : Nat} : ∀ {l : List Fd} {met : List Int}, badF n met l = false ↔ (∀ f ∈ l, f.ok n) ∧ (l.map Fd.item).Nodup ∧ ∀ f ∈ l, f.item ∉ met
  | [], met => by simp [badF]
  | f :: r, met => by
    rw [badF]
    by_cases h : f.ok n ∧ f.item ∉ met
    · rw [if_pos h, badF_false]
      simp only [List.mem_cons, List.map_cons, List.nodup_cons, List.mem_append, List.mem_map, List.not_mem_nil, or_false]
      constructor
      · rintro ⟨h1, h2, h3⟩
        refine ⟨?_, ⟨?_, h2⟩, ?_⟩
        · rintro x (rfl | hx)
          · exact h.1
          · exact h1 x hx
        · rintro ⟨x, hx, e⟩
          exact h3 x hx (.inr e)
        · rintro x (rfl | hx)
          · exact h.2
          · exact fun g => h3 x hx (.inl g)
      · rintro ⟨h1, ⟨h2, h3⟩, h4⟩
        refine ⟨fun x hx => h1 x (.inr hx), h3, fun x hx => ?_⟩
        rintro (g | g)
        · exact h4 x (.inr hx) g
        · exact h2 ⟨x, hx, g⟩
    · rw [if_neg h]
      constructor
      · intro g; cases g
      · rintro ⟨h1, _, h3⟩
        exact absurd ⟨h1 f List.mem_cons_self, h3 f List.mem_cons_self⟩ h
theorem FdsOk.fed {n : Nat} {l : List Fd} (h : FdsOk n l) : fedF n l = 0 := by
  unfold fedF
  rw [if_neg (by have := h.len; omega), badF_false.2 ⟨h.ok, h.nd, by simp⟩]
  rfl
def leaveF (m : M) : List Int := m.stackers.flatten
end Go.Sx.Srt
namespace Go.Sx.Srt
open Go.Sx.Seq (addAt addAt_len)
theorem getD_set {α : Type} (l : List α) (k j : Nat) (v d : α) : (l.set k v).getD j d = if k = j ∧ k < l.length then v else l.getD j d := by
  simp only [List.getD_eq_getElem?_getD, List.getElem?_set]
  by_cases e : k = j
  · subst e
    by_cases h : k < l.length
    · simp [h]
    · simp [h]
  · simp [e]
theorem getD_in {α : Type} {l : List α} {k : Nat} {d : α} (h : k < l.length) : l[k]? = some (l.getD k d) := by simp [h]
theorem sum_set (l : List Int) (k : Nat) (v : Int) (h : k < l.length) : (l.set k v).sum = l.sum - l.getD k 0 + v := by
  induction l generalizing k with
  | nil => simp at h
  | cons a l ih =>
    cases k with
    | zero => simp; omega
    | succ k =>
      have := ih k (by simpa using h)
      simp only [List.set_cons_succ, List.sum_cons, List.getD_cons_succ]
      omega
theorem sum_addAt (l : List Int) (k : Nat) (v : Int) (h : k < l.length) : (addAt l k v).sum = l.sum + v := by
  unfold addAt; rw [sum_set _ _ _ h]; omega
theorem addAt_getD (l : List Int) (k j : Nat) (v : Int) : (addAt l k v).getD j 0 = l.getD j 0 + if k = j ∧ k < l.length then v else 0 := by
  unfold addAt
  rw [getD_set]
  split
  · rename_i h; rw [h.1]
  · omega
theorem putAt_getD (l : List (List Int)) (k j : Nat) (x : Int) : (putAt l k x).getD j [] = l.getD j [] ++ if k = j ∧ k < l.length then [x] else [] := by
  unfold putAt
  rw [getD_set]
  split
  · rename_i h; rw [h.1]
  · simp
theorem putAt_flatten (l : List (List Int)) (k : Nat) (x : Int) (h : k < l.length) : (putAt l k x).flatten.Perm (l.flatten ++ [x]) := by
  induction l generalizing k with
  | nil => simp at h
  | cons a l ih =>
    cases k with
    | zero =>
      simp only [putAt, List.set_cons_zero, List.flatten_cons, List.getD_cons_zero, List.append_assoc]
      exact List.Perm.append_left _ List.perm_append_comm
    | succ k =>
      have := ih k (by simpa using h)
      simp only [putAt, List.set_cons_succ, List.flatten_cons, List.getD_cons_succ, List.append_assoc] at this ⊢
      exact List.Perm.append_left _ this
/-- The four ways of a feed. -/
theorem take_cases (caps : List Int) (m : M) (f : Fd) :
    (f.st < 0 ∧ takeF caps m f = note { m with rej := m.rej ++ [f.item] } [⟨4, f.item, -1⟩]) ∨
    (0 ≤ f.st ∧ m.held.getD f.st.toNat 0 < caps.getD f.st.toNat 0 ∧ takeF caps m f = stack (note m [⟨1, f.item, f.st⟩]) f) ∨
    (0 ≤ f.st ∧ ¬ m.held.getD f.st.toNat 0 < caps.getD f.st.toNat 0 ∧ 0 < m.left ∧ takeF caps m f = stack (note { m with left := m.left - 1, held := m.held.set f.st.toNat 0, swept := addAt m.swept f.st.toNat 1 } [⟨2, f.item, f.st⟩, ⟨1, f.item, f.st⟩]) f) ∨
    (0 ≤ f.st ∧ ¬ m.held.getD f.st.toNat 0 < caps.getD f.st.toNat 0 ∧ ¬ 0 < m.left ∧ takeF caps m f = note { m with over := m.over ++ [f.item] } [⟨3, f.item, f.st⟩]) := by
  unfold takeF
  by_cases h1 : f.st < 0
  · exact .inl ⟨h1, by rw [if_pos h1]⟩
  · by_cases h2 : m.held.getD f.st.toNat 0 < caps.getD f.st.toNat 0
    · exact .inr (.inl ⟨by omega, h2, by rw [if_neg h1, if_pos h2]⟩)
    · by_cases h3 : 0 < m.left
      · exact .inr (.inr (.inl ⟨by omega, h2, h3, by rw [if_neg h1, if_neg h2, if_pos h3]⟩))
      · exact .inr (.inr (.inr ⟨by omega, h2, h3, by rw [if_neg h1, if_neg h2, if_neg h3]⟩))
/-! ## the numbers -/
structure Inv (caps : List Int) (s : Int) (m : M) : Prop extends Sz caps.length m where
  len : ∀ k, k < caps.length → ((m.stackers.getD k []).length : Int) = caps.getD k 0 * m.swept.getD k 0 + m.held.getD k 0
  held : ∀ k, k < caps.length → 0 ≤ m.held.getD k 0 ∧ m.held.getD k 0 ≤ caps.getD k 0
  swept : ∀ k, k < caps.length → 0 ≤ m.swept.getD k 0
  more : ∀ k, k < caps.length → 0 < m.swept.getD k 0 → 1 ≤ m.held.getD k 0
  left : m.left = s - m.swept.sum
  left0 : 0 ≤ m.left
  over : m.over ≠ [] → m.left = 0
theorem Inv.new {caps : List Int} {s : Int} (hc : ∀ c ∈ caps, 1 ≤ c) (hs : 0 ≤ s) : Inv caps s (M.new caps.length s) := by
  have hz : ∀ k, k < caps.length → (List.replicate caps.length (0 : Int)).getD k 0 = 0 := fun k h => by simp [h]
  have hcap : ∀ k, k < caps.length → 1 ≤ caps.getD k 0 := fun k h => by
    have := hc _ (List.getElem_mem h)
    simpa [h] using this
  refine ⟨Sz.new _ _, ?_, ?_, ?_, ?_, ?_, hs, ?_⟩
  · intro k hk
    simp only [M.new, hz k hk]
    simp [hk]
  · intro k hk
    simp only [M.new, hz k hk]
    have := hcap k hk
    omega
  · intro k hk; simp only [M.new, hz k hk]; omega
  · intro k hk; simp only [M.new, hz k hk]; omega
  · simp only [M.new]
    have : (List.replicate caps.length (0 : Int)).sum = 0 := by
      induction caps.length with
      | zero => rfl
      | succ n ih => simp [List.replicate_succ, ih]
    omega
  · intro h; exact absurd rfl h
theorem Inv.take {caps : List Int} {s : Int} {m : M} {f : Fd} (h : Inv caps s m) (hc : ∀ c ∈ caps, 1 ≤ c) (hf : f.st < caps.length) : Inv caps s (takeF caps m f) := by
  have hsz := h.toSz.take caps f
  have e1 := h.st
  have e2 := h.sw
  have e3 := h.hd
  rcases take_cases caps m f with ⟨_, e⟩ | ⟨h0, h1, e⟩ | ⟨h0, h1, h2, e⟩ | ⟨h0, h1, h2, e⟩
  · rw [e] at hsz ⊢
    exact ⟨hsz, h.len, h.held, h.swept, h.more, h.left, h.left0, h.over⟩
  · rw [e] at hsz ⊢
    have hk : f.st.toNat < caps.length := by omega
    refine ⟨hsz, fun k hk' => ?_, fun k hk' => ?_, h.swept, fun k hk' hp => ?_, h.left, h.left0, h.over⟩
    · have := h.len k hk'
      simp only [stack, note, putAt_getD, addAt_getD, e1, e3]
      by_cases g : f.st.toNat = k
      · subst g; simp only [hk', and_self, if_true, true_and, List.length_append, List.length_cons, List.length_nil]; omega
      · simp only [g, false_and, if_false, List.append_nil, Int.add_zero]; omega
    · have := h.held k hk'
      simp only [stack, note, addAt_getD, e3]
      by_cases g : f.st.toNat = k
      · subst g; simp only [hk', and_self, if_true, true_and, List.length_append, List.length_cons, List.length_nil]; omega
      · simp only [g, false_and, if_false, List.append_nil, Int.add_zero]; omega
    · have := h.more k hk' hp
      have := h.held k hk'
      simp only [stack, note, addAt_getD, e3]
      split <;> omega
  · rw [e] at hsz ⊢
    have hk : f.st.toNat < caps.length := by omega
    have hcap : 1 ≤ caps.getD f.st.toNat 0 := by
      have := hc _ (List.getElem_mem hk)
      simpa [hk] using this
    refine ⟨hsz, fun k hk' => ?_, fun k hk' => ?_, fun k hk' => ?_, fun k hk' hp => ?_, ?_, ?_, ?_⟩
    · have := h.len k hk'
      simp only [stack, note, putAt_getD, addAt_getD, e1, e2, e3, List.length_set, getD_set]
      by_cases g : f.st.toNat = k
      · subst g
        have hh := h.held _ hk'
        have hq : m.held.getD f.st.toNat 0 = caps.getD f.st.toNat 0 := by omega
        simp only [hk', and_self, if_true, List.length_append, List.length_cons, List.length_nil, true_and, Int.mul_add]
        rw [hq] at this
        omega
      · simp only [g, false_and, if_false, List.append_nil, Int.add_zero]; omega
    · have := h.held k hk'
      simp only [stack, note, addAt_getD, e3, List.length_set, getD_set]
      by_cases g : f.st.toNat = k
      · subst g; simp only [hk', and_self, if_true, true_and, List.length_append, List.length_cons, List.length_nil]; omega
      · simp only [g, false_and, if_false, List.append_nil, Int.add_zero]; omega
    · have := h.swept k hk'
      simp only [stack, note, addAt_getD, e2]
      split <;> omega
    · simp only [stack, note, addAt_getD, e2, e3, List.length_set, getD_set] at hp ⊢
      by_cases g : f.st.toNat = k
      · subst g; simp only [hk', and_self, if_true, true_and]; omega
      · simp only [g, false_and, if_false, Int.add_zero] at hp ⊢; exact h.more k hk' hp
    · have := h.left
      simp only [stack, note]
      rw [sum_addAt _ _ _ (by omega)]
      omega
    · simp only [stack, note]; omega
    · intro ho
      have := h.over ho
      simp only [stack, note]; omega
  · rw [e] at hsz ⊢
    exact ⟨hsz, h.len, h.held, h.swept, h.more, h.left, h.left0, fun _ => by have := h.left0; simp only [note]; omega⟩
/-! ## what comes later lies behind -/
structure Ext (is : List Int) (m m' : M) : Prop where
  st : ∀ k, ∃ t, m'.stackers.getD k [] = m.stackers.getD k [] ++ t ∧ t.Sublist is
  ov : ∃ t, m'.over = m.over ++ t ∧ t.Sublist is
  rj : ∃ t, m'.rej = m.rej ++ t ∧ t.Sublist is
  ev : ∃ t, m'.evs = m.evs ++ t
theorem Ext.refl (m : M) : Ext [] m m := ⟨fun k => ⟨[], by simp, List.Sublist.refl _⟩, ⟨[], by simp, List.Sublist.refl _⟩, ⟨[], by simp, List.Sublist.refl _⟩, ⟨[], by simp⟩⟩
theorem Ext.trans {a b : List Int} {m m' m'' : M} (h : Ext a m m') (h' : Ext b m' m'') : Ext (a ++ b) m m'' := by
  refine ⟨fun k => ?_, ?_, ?_, ?_⟩
  · obtain ⟨t, e, s⟩ := h.st k
    obtain ⟨t', e', s'⟩ := h'.st k
    exact ⟨t ++ t', by rw [e', e, List.append_assoc], s.append s'⟩
  · obtain ⟨t, e, s⟩ := h.ov
    obtain ⟨t', e', s'⟩ := h'.ov
    exact ⟨t ++ t', by rw [e', e, List.append_assoc], s.append s'⟩
  · obtain ⟨t, e, s⟩ := h.rj
    obtain ⟨t', e', s'⟩ := h'.rj
    exact ⟨t ++ t', by rw [e', e, List.append_assoc], s.append s'⟩
  · obtain ⟨t, e⟩ := h.ev
    obtain ⟨t', e'⟩ := h'.ev
    exact ⟨t ++ t', by rw [e', e, List.append_assoc]⟩
theorem Ext.take (caps : List Int) (m : M) (f : Fd) : Ext [f.item] m (takeF caps m f) := by
  have s0 : ∀ x : Int, List.Sublist [] [x] := fun x => List.nil_sublist _
  have hput : ∀ k, ∃ t, (putAt m.stackers f.st.toNat f.item).getD k [] = m.stackers.getD k [] ++ t ∧ t.Sublist [f.item] := fun k => by
    rw [putAt_getD]
    refine ⟨_, rfl, ?_⟩
    split
    · exact List.Sublist.refl _
    · exact s0 _
  rcases take_cases caps m f with ⟨_, e⟩ | ⟨_, _, e⟩ | ⟨_, _, _, e⟩ | ⟨_, _, _, e⟩ <;> rw [e]
  · exact ⟨fun k => ⟨[], by simp [note], s0 _⟩, ⟨[], by simp [note], s0 _⟩, ⟨_, rfl, List.Sublist.refl _⟩, ⟨_, rfl⟩⟩
  · exact ⟨hput, ⟨[], by simp [note, stack], s0 _⟩, ⟨[], by simp [note, stack], s0 _⟩, ⟨_, rfl⟩⟩
  · exact ⟨hput, ⟨[], by simp [note, stack], s0 _⟩, ⟨[], by simp [note, stack], s0 _⟩, ⟨_, rfl⟩⟩
  · exact ⟨fun k => ⟨[], by simp [note], s0 _⟩, ⟨_, rfl, List.Sublist.refl _⟩, ⟨[], by simp [note], s0 _⟩, ⟨_, rfl⟩⟩
/-! ## nothing is lost -/
def allOf (m : M) : List Int := m.stackers.flatten ++ (m.over ++ m.rej)
theorem take_all {caps : List Int} {m : M} {f : Fd} (h : Sz caps.length m) (hf : f.st < caps.length) : (allOf (takeF caps m f)).Perm (allOf m ++ [f.item]) := by
  have e1 := h.st
  have hput : 0 ≤ f.st → ((putAt m.stackers f.st.toNat f.item).flatten ++ (m.over ++ m.rej)).Perm (m.stackers.flatten ++ (m.over ++ m.rej) ++ [f.item]) := fun h0 => by
    refine (List.Perm.append_right _ (putAt_flatten m.stackers f.st.toNat f.item (by omega))).trans ?_
    rw [List.append_assoc, List.append_assoc]
    exact List.Perm.append_left _ List.perm_append_comm
  rcases take_cases caps m f with ⟨_, e⟩ | ⟨h0, _, e⟩ | ⟨h0, _, _, e⟩ | ⟨_, _, _, e⟩ <;> rw [e]
  · simp only [allOf, note, List.append_assoc]
    exact List.Perm.refl _
  · exact hput h0
  · exact hput h0
  · simp only [allOf, note, List.append_assoc]
    exact List.Perm.append_left _ (List.Perm.append_left _ List.perm_append_comm)
theorem playF_all {caps : List Int} {s : Int} {l : List Fd} (hl : ∀ f ∈ l, f.st < caps.length) : (allOf (playF caps s l)).Perm (l.map Fd.item) := by
  have : ∀ n, n ≤ l.length → (allOf (playF caps s (l.take n))).Perm ((l.take n).map Fd.item) := by
    intro n
    induction n with
    | zero =>
      intro _
      have hz : ∀ n : Nat, (List.replicate n ([] : List Int)).flatten = [] := fun n => by simp
      simp [playF, allOf, M.new, hz]
    | succ n ih =>
      intro hn
      have hx := List.getElem?_eq_getElem (show n < l.length by omega)
      rw [List.take_add_one, hx]
      simp only [Option.toList, playF_snoc, List.map_append, List.map_cons, List.map_nil]
      exact (take_all (playF_sz _ _ _) (hl _ (List.getElem_mem _))).trans (List.Perm.append_right _ (ih (by omega)))
  have := this l.length (Nat.le_refl _)
  rwa [List.take_length] at this
end Go.Sx.Srt
namespace Go.Sx.Srt
open Go.Sx.Seq (addAt addAt_len)
def shift (d : Int) (m : M) : M := { m with left := m.left + d }
/-- How many sweeps are needed. -/
def needed (caps : List Int) (l : List Fd) : Int := (playF caps l.length l).swept.sum
/-! ## events -/
end Go.Sx.Srt
namespace Go.Sx.Srt
open Go.Sx.Seq (addAt addAt_len)
/-- What belongs to a stacker, in the order of feeding. -/
def goes (l : List Fd) (k : Nat) : List Int := (l.filter fun f => f.st = (k : Int)).map Fd.item
def refused (l : List Fd) : List Int := (l.filter fun f => f.st < 0).map Fd.item
theorem goes_snoc (l : List Fd) (f : Fd) (k : Nat) : goes (l ++ [f]) k = goes l k ++ if f.st = (k : Int) then [f.item] else [] := by
  unfold goes
  rw [List.filter_append, List.map_append]
  by_cases h : f.st = (k : Int) <;> simp [h]
theorem refused_snoc (l : List Fd) (f : Fd) : refused (l ++ [f]) = refused l ++ if f.st < 0 then [f.item] else [] := by
  unfold refused
  rw [List.filter_append, List.map_append]
  by_cases h : f.st < 0 <;> simp [h]
theorem list_snoc {α : Type} {P : List α → Prop} (h0 : P []) (h1 : ∀ l x, P l → P (l ++ [x])) : ∀ l, P l := by
  intro l
  have : ∀ n, n ≤ l.length → P (l.take n) := by
    intro n
    induction n with
    | zero => intro _; simpa using h0
    | succ n ih =>
      intro hn
      have hx := List.getElem?_eq_getElem (show n < l.length by omega)
      rw [List.take_add_one, hx]
      exact h1 _ _ (ih (by omega))
  have := this l.length (Nat.le_refl _)
  rwa [List.take_length] at this
theorem playF_goes {caps : List Int} {s : Int} : ∀ l : List Fd, (∀ f ∈ l, f.st < caps.length) → ∀ k, ((playF caps s l).stackers.getD k []).Sublist (goes l k) := by
  refine list_snoc ?_ ?_
  · intro _ k
    simp only [playF_nil, M.new]
    have : (List.replicate caps.length ([] : List Int)).getD k [] = [] := by
      by_cases h : k < caps.length <;> simp [h]
    rw [this]; exact List.nil_sublist _
  · intro l f ih hl k
    have ih := ih (fun x hx => hl x (List.mem_append_left _ hx)) k
    have hf := hl f (by simp)
    have hz := (playF_sz caps s l).st
    rw [playF_snoc, goes_snoc]
    have hput : 0 ≤ f.st → ((putAt (playF caps s l).stackers f.st.toNat f.item).getD k []).Sublist (goes l k ++ if f.st = (k : Int) then [f.item] else []) := fun h0 => by
      rw [putAt_getD, hz]
      refine ih.append ?_
      by_cases e : f.st = (k : Int)
      · rw [if_pos (by omega), if_pos e]; exact List.Sublist.refl _
      · rw [if_neg (by omega), if_neg e]; exact List.Sublist.refl _
    have hsame : ((playF caps s l).stackers.getD k []).Sublist (goes l k ++ if f.st = (k : Int) then [f.item] else []) := ih.trans (List.sublist_append_left _ _)
    rcases take_cases caps (playF caps s l) f with ⟨_, e⟩ | ⟨h0, _, e⟩ | ⟨h0, _, _, e⟩ | ⟨_, _, _, e⟩ <;> rw [e]
    · exact hsame
    · exact hput h0
    · exact hput h0
    · exact hsame
theorem playF_refused {caps : List Int} {s : Int} : ∀ l : List Fd, (playF caps s l).rej = refused l := by
  refine list_snoc ?_ ?_
  · rfl
  · intro l f ih
    rw [playF_snoc, refused_snoc]
    rcases take_cases caps (playF caps s l) f with ⟨h, e⟩ | ⟨h, _, e⟩ | ⟨h, _, _, e⟩ | ⟨h, _, _, e⟩ <;> rw [e]
    · simp only [note, ih, if_pos h]
    · simp only [note, stack, ih, if_neg (show ¬ f.st < 0 by omega), List.append_nil]
    · simp only [note, stack, ih, if_neg (show ¬ f.st < 0 by omega), List.append_nil]
    · simp only [note, ih, if_neg (show ¬ f.st < 0 by omega), List.append_nil]
/-- Where there is room for all that belongs to a stacker, no sweep is made. -/
theorem playF_room {caps : List Int} {s : Int} : ∀ l : List Fd, (∀ f ∈ l, f.st < caps.length) → (∀ k, k < caps.length → ((goes l k).length : Int) ≤ caps.getD k 0) →
    (playF caps s l).over = [] ∧ (playF caps s l).swept = List.replicate caps.length 0 ∧ (playF caps s l).left = s ∧ ∀ k, k < caps.length → (playF caps s l).stackers.getD k [] = goes l k ∧ (playF caps s l).held.getD k 0 = (goes l k).length := by
  refine list_snoc ?_ ?_
  · intro _ _
    refine ⟨rfl, rfl, rfl, fun k hk => ?_⟩
    simp [playF_nil, M.new, hk, goes]
  · intro l f ih hl hc
    have hf := hl f (by simp)
    obtain ⟨i1, i2, i3, i4⟩ := ih (fun x hx => hl x (List.mem_append_left _ hx)) (fun k hk => by
      have := hc k hk
      rw [goes_snoc, List.length_append] at this
      omega)
    have hz := playF_sz caps s l
    have hz1 := hz.st
    have hz3 := hz.hd
    rw [playF_snoc]
    rcases take_cases caps (playF caps s l) f with ⟨h, e⟩ | ⟨h, hh, e⟩ | ⟨h, hh, _, e⟩ | ⟨h, hh, _, e⟩
    · rw [e]
      refine ⟨i1, i2, i3, fun k hk => ?_⟩
      rw [goes_snoc, if_neg (by omega), List.append_nil]
      exact i4 k hk
    · rw [e]
      refine ⟨i1, i2, i3, fun k hk => ?_⟩
      obtain ⟨j1, j2⟩ := i4 k hk
      simp only [stack, note, putAt_getD, addAt_getD, hz1, hz3, goes_snoc, j1, j2]
      by_cases e : f.st = (k : Int)
      · rw [if_pos (by omega), if_pos e, if_pos (by omega)]
        simp
      · rw [if_neg (by omega), if_neg e, if_neg (by omega)]
        simp
    all_goals
      exfalso
      have hk : f.st.toNat < caps.length := by omega
      have h1 := hc _ hk
      have h2 := (i4 _ hk).2
      rw [goes_snoc, if_pos (by omega), List.length_append] at h1
      simp only [List.length_cons, List.length_nil] at h1
      omega
theorem getD_list {α : Type} {l : List (List α)} {n : Nat} (h : l.length = n) : l = (List.range n).map fun k => l.getD k [] := by
  subst h
  apply List.ext_getElem?
  intro i
  by_cases hi : i < l.length
  · simp [hi]
  · rw [List.getElem?_eq_none (by omega), List.getElem?_eq_none (by simp; omega)]
/-- Lists, one behind the other. -/
theorem flatten_pairwise {α : Type} (key : α → Nat) (S : α → α → Prop) (g : Nat → List α) : ∀ n, (∀ k, k < n → (∀ x ∈ g k, key x = k) ∧ (g k).Pairwise S) → (((List.range n).map g).flatten).Pairwise fun a b => key a < key b ∨ (key a = key b ∧ S a b)
  | 0, _ => by simp
  | n + 1, h => by
    rw [List.range_succ, List.map_append, List.flatten_append, List.map_singleton, List.flatten_singleton, List.pairwise_append]
    refine ⟨flatten_pairwise key S g n (fun k hk => h k (by omega)), ?_, ?_⟩
    · obtain ⟨h1, h2⟩ := h n (by omega)
      refine h2.imp_of_mem ?_
      intro a b ha hb hs
      exact .inr ⟨by rw [h1 a ha, h1 b hb], hs⟩
    · intro a ha b hb
      left
      obtain ⟨l, hl, hal⟩ := List.mem_flatten.1 ha
      obtain ⟨k, hk, rfl⟩ := List.mem_map.1 hl
      have hk := List.mem_range.1 hk
      rw [(h k (by omega)).1 a hal, (h n (by omega)).1 b hb]
      exact hk
end Go.Sx.Srt
namespace Go.Sx.Srt
open Go.Sx.Seq (addAt addAt_len findF lexLt)
structure It where
  id : Int
  stop : Int
  first : Bool
  second : Bool
deriving DecidableEq
def itF (items : List It) (id : Int) : Option It := items.find? fun x => x.id == id
/-- Where an item belongs in the first pass. -/
def st1 (p : Seq.Plan) (x : It) : Int := match findF p.seats x.stop with
  | some s => if x.first = true then s.first else -1
  | none => -1
def st2 (p : Seq.Plan) (items : List It) (id : Int) : Int := match itF items id with
  | some x => if x.second = true then (match findF p.seats x.stop with
    | some s => s.second
    | none => 0) else -1
  | none => -1
def feeds1 (p : Seq.Plan) (items : List It) : List Fd := items.map fun x => ⟨x.id, st1 p x⟩
def pass1 (p : Seq.Plan) (s : Int) (items : List It) : M := playF p.caps s (feeds1 p items)
def feeds2 (p : Seq.Plan) (items : List It) (l : List Int) : List Fd := l.map fun id => ⟨id, st2 p items id⟩
def pass2 (p : Seq.Plan) (s : Int) (items : List It) : M := playF p.caps s (feeds2 p items (leaveF (pass1 p s items)))
def orderF (p : Seq.Plan) (s : Int) (items : List It) : List Int := leaveF (pass2 p s items)
/-- Whether some item is not valid, or has the ID of an earlier one. -/
def badI : List Int → List It → Bool
  | _, [] => false
  | met, x :: r => if (1 ≤ x.id ∧ x.id ≤ 999999) ∧ x.id ∉ met then badI (met ++ [x.id]) r else true
def twoE (p : Seq.Plan) (s : Int) (items : List It) : Int :=
  if (Seq.checkF p).2 ≠ 0 then (Seq.checkF p).2 else
  if s < 0 ∨ 1000 < s then 2 else
  if 2000 < items.length then 5 else
  if badI [] items = true then 292 else 0
/-- A plan that Check accepts, as far as it is used. -/
structure POk (p : Seq.Plan) : Prop where
  mach : Seq.machineOk p.caps
  nd : (p.seats.map Seq.Seat.stop).Nodup
  range : ∀ s ∈ p.seats, (0 ≤ s.first ∧ s.first < p.caps.length) ∧ (0 ≤ s.second ∧ s.second < p.caps.length)
  pw : p.seats.Pairwise lexLt
theorem Good.pok {l : List Seq.Stop} {caps : List Int} {p : Seq.Plan} (h : Seq.Good l caps p) (hm : Seq.machineOk caps) (hr : Seq.routeFrom [] l) : POk p :=
  ⟨by rw [h.caps_eq]; exact hm, h.nodup hr, by rw [h.caps_eq]; exact h.range, h.pw⟩
theorem findF_mem {l : List Seq.Seat} {x : Int} {s : Seq.Seat} (h : findF l x = some s) : s ∈ l ∧ s.stop = x := by
  unfold findF at h
  exact ⟨List.mem_of_find?_eq_some h, by simpa using List.find?_some h⟩
theorem itF_of {items : List It} (hnd : (items.map It.id).Nodup) {i : Nat} {x : It} (h : items[i]? = some x) : itF items x.id = some x := by
  unfold itF
  induction items generalizing i with
  | nil => simp at h
  | cons y r ih =>
    simp only [List.map_cons, List.nodup_cons] at hnd
    cases i with
    | zero =>
      simp at h; subst h
      simp
    | succ i =>
      simp only [List.getElem?_cons_succ] at h
      have hne : y.id ≠ x.id := fun e => hnd.1 (List.mem_map.2 ⟨x, List.mem_of_getElem? h, e.symm⟩)
      rw [List.find?_cons_of_neg (by simpa using hne)]
      exact ih hnd.2 h
theorem itF_mem {items : List It} {id : Int} {x : It} (h : itF items id = some x) : x ∈ items ∧ x.id = id := by
  unfold itF at h
  exact ⟨List.mem_of_find?_eq_some h, by simpa using List.find?_some h⟩
theorem itF_find {items : List It} (hnd : (items.map It.id).Nodup) {x : It} (h : x ∈ items) : itF items x.id = some x := by
  obtain ⟨i, hi⟩ := List.getElem?_of_mem h
  exact itF_of hnd hi
theorem st1_lt {p : Seq.Plan} (h : POk p) (x : It) : -1 ≤ st1 p x ∧ st1 p x < p.caps.length := by
  have hm := h.mach.1
  unfold st1
  cases hf : findF p.seats x.stop with
  | none => simp only []; omega
  | some s =>
    have := h.range s (findF_mem hf).1
    simp only []
    split <;> omega
theorem st2_lt {p : Seq.Plan} (h : POk p) (items : List It) (id : Int) : -1 ≤ st2 p items id ∧ st2 p items id < p.caps.length := by
  have hm := h.mach.1
  unfold st2
  cases itF items id with
  | none => simp only []; omega
  | some x =>
    simp only []
    split
    · cases hf : findF p.seats x.stop with
      | none => simp only []; omega
      | some s =>
        have := h.range s (findF_mem hf).1
        simp only []
        omega
    · omega
theorem feeds1_lt {p : Seq.Plan} (h : POk p) (items : List It) : ∀ f ∈ feeds1 p items, f.st < p.caps.length := fun f hf => by
  obtain ⟨x, _, rfl⟩ := List.mem_map.1 hf
  exact (st1_lt h x).2
theorem feeds2_lt {p : Seq.Plan} (h : POk p) (items : List It) (l : List Int) : ∀ f ∈ feeds2 p items l, f.st < p.caps.length := fun f hf => by
  obtain ⟨x, _, rfl⟩ := List.mem_map.1 hf
  exact (st2_lt h items x).2
theorem feeds1_items (p : Seq.Plan) (items : List It) : (feeds1 p items).map Fd.item = items.map It.id := by simp [feeds1, Function.comp_def]
theorem feeds2_items (p : Seq.Plan) (items : List It) (l : List Int) : (feeds2 p items l).map Fd.item = l := by simp [feeds2, Function.comp_def]
theorem two_perm1 {p : Seq.Plan} (h : POk p) (s : Int) (items : List It) : (leaveF (pass1 p s items) ++ ((pass1 p s items).over ++ (pass1 p s items).rej)).Perm (items.map It.id) := by
  have := playF_all (s := s) (feeds1_lt h items)
  rw [feeds1_items] at this
  exact this
theorem two_perm2 {p : Seq.Plan} (h : POk p) (s : Int) (items : List It) : (orderF p s items ++ ((pass2 p s items).over ++ (pass2 p s items).rej)).Perm (leaveF (pass1 p s items)) := by
  have := playF_all (s := s) (feeds2_lt h items (leaveF (pass1 p s items)))
  rw [feeds2_items] at this
  exact this
theorem goes_sub (l : List Fd) (k : Nat) : (goes l k).Sublist (l.map Fd.item) := List.Sublist.map _ List.filter_sublist
theorem leaveF_eq (caps : List Int) (s : Int) (l : List Fd) : leaveF (playF caps s l) = ((List.range caps.length).map fun k => (playF caps s l).stackers.getD k []).flatten := by
  unfold leaveF
  conv => lhs; rw [getD_list (playF_sz caps s l).st]
/-- What is left after the first pass has a stacker there. -/
theorem leave1_mem {p : Seq.Plan} (h : POk p) (s : Int) {items : List It} (hnd : (items.map It.id).Nodup) {id : Int} (hid : id ∈ leaveF (pass1 p s items)) : ∃ x t, x ∈ items ∧ x.id = id ∧ itF items id = some x ∧ x.first = true ∧ findF p.seats x.stop = some t := by
  unfold pass1 at hid
  rw [leaveF_eq] at hid
  obtain ⟨l, hl, hm⟩ := List.mem_flatten.1 hid
  obtain ⟨k, hk, rfl⟩ := List.mem_map.1 hl
  have hg := (playF_goes _ (feeds1_lt h items) k).subset hm
  unfold goes at hg
  obtain ⟨f, hf, rfl⟩ := List.mem_map.1 hg
  obtain ⟨hf1, hf2⟩ := List.mem_filter.1 hf
  obtain ⟨x, hx, rfl⟩ := List.mem_map.1 hf1
  simp only [decide_eq_true_eq] at hf2
  refine ⟨x, ?_⟩
  unfold st1 at hf2
  cases hs : findF p.seats x.stop with
  | none => rw [hs] at hf2; simp only [] at hf2; omega
  | some t =>
    rw [hs] at hf2
    simp only [] at hf2
    split at hf2
    · rename_i hfi
      exact ⟨t, hx, rfl, itF_find hnd hx, hfi, rfl⟩
    · omega
def k1 (p : Seq.Plan) (items : List It) (id : Int) : Nat := match itF items id with
  | some x => (st1 p x).toNat
  | none => 0
def k2 (p : Seq.Plan) (items : List It) (id : Int) : Nat := (st2 p items id).toNat
def ix (items : List It) (id : Int) : Nat := items.findIdx fun x => x.id == id
theorem ix_of {items : List It} (hnd : (items.map It.id).Nodup) {i : Nat} {x : It} (h : items[i]? = some x) : ix items x.id = i := by
  unfold ix
  induction items generalizing i with
  | nil => simp at h
  | cons y r ih =>
    simp only [List.map_cons, List.nodup_cons] at hnd
    cases i with
    | zero =>
      simp at h; subst h
      simp [List.findIdx_cons]
    | succ i =>
      simp only [List.getElem?_cons_succ] at h
      have hne : y.id ≠ x.id := fun e => hnd.1 (List.mem_map.2 ⟨x, List.mem_of_getElem? h, e.symm⟩)
      have hb : (y.id == x.id) = false := by simpa using hne
      rw [List.findIdx_cons, ih hnd.2 h, hb]
      rfl
theorem ix_pw {items : List It} (hnd : (items.map It.id).Nodup) : (items.map It.id).Pairwise fun a b => ix items a < ix items b := by
  rw [List.pairwise_iff_getElem]
  intro i j hi hj hij
  have hi' : i < items.length := by simpa using hi
  have hj' : j < items.length := by simpa using hj
  simp only [List.getElem_map]
  rw [ix_of hnd (List.getElem?_eq_getElem hi'), ix_of hnd (List.getElem?_eq_getElem hj')]
  exact hij
theorem leave1_pw {p : Seq.Plan} (h : POk p) (s : Int) {items : List It} (hnd : (items.map It.id).Nodup) : (leaveF (pass1 p s items)).Pairwise fun a b => k1 p items a < k1 p items b ∨ (k1 p items a = k1 p items b ∧ ix items a < ix items b) := by
  unfold pass1
  rw [leaveF_eq]
  refine flatten_pairwise (k1 p items) (fun a b => ix items a < ix items b) _ _ fun k hk => ?_
  have hg := playF_goes (s := s) _ (feeds1_lt h items) k
  refine ⟨fun id hid => ?_, ?_⟩
  · have hg := hg.subset hid
    unfold goes at hg
    obtain ⟨f, hf, rfl⟩ := List.mem_map.1 hg
    obtain ⟨hf1, hf2⟩ := List.mem_filter.1 hf
    obtain ⟨x, hx, rfl⟩ := List.mem_map.1 hf1
    simp only [decide_eq_true_eq] at hf2
    unfold k1
    rw [itF_find hnd hx]
    simp only []
    omega
  · have hsub := hg.trans (goes_sub _ k)
    rw [feeds1_items] at hsub
    exact (ix_pw hnd).sublist hsub
theorem order_mem {p : Seq.Plan} (h : POk p) (s : Int) {items : List It} (hnd : (items.map It.id).Nodup) {id : Int} (hid : id ∈ orderF p s items) : ∃ x t, x ∈ items ∧ x.id = id ∧ itF items id = some x ∧ x.first = true ∧ x.second = true ∧ findF p.seats x.stop = some t ∧ k1 p items id = t.first.toNat ∧ k2 p items id = t.second.toNat := by
  have h0 := hid
  unfold orderF pass2 at hid
  rw [leaveF_eq] at hid
  obtain ⟨l, hl, hm⟩ := List.mem_flatten.1 hid
  obtain ⟨k, hk, rfl⟩ := List.mem_map.1 hl
  have hg := (playF_goes _ (feeds2_lt h items _) k).subset hm
  unfold goes at hg
  obtain ⟨f, hf, rfl⟩ := List.mem_map.1 hg
  obtain ⟨hf1, hf2⟩ := List.mem_filter.1 hf
  obtain ⟨id', hx, rfl⟩ := List.mem_map.1 hf1
  simp only [decide_eq_true_eq] at hf2
  obtain ⟨x, t, g1, g2, g3, g4, g5⟩ := leave1_mem h s hnd hx
  refine ⟨x, t, g1, g2, g3, g4, ?_, g5, ?_, ?_⟩
  · unfold st2 at hf2
    rw [g3] at hf2
    simp only [] at hf2
    split at hf2
    · assumption
    · omega
  · unfold k1 st1
    simp only [g3, g5, g4, if_true]
  · unfold st2 at hf2
    rw [g3] at hf2
    simp only [] at hf2
    split at hf2
    · rename_i hs2
      unfold k2 st2
      simp only [g3, g5, hs2, if_true]
    · omega
theorem order_pw {p : Seq.Plan} (h : POk p) (s : Int) {items : List It} (hnd : (items.map It.id).Nodup) : (orderF p s items).Pairwise fun a b => k2 p items a < k2 p items b ∨ (k2 p items a = k2 p items b ∧ (k1 p items a < k1 p items b ∨ (k1 p items a = k1 p items b ∧ ix items a < ix items b))) := by
  unfold orderF pass2
  rw [leaveF_eq]
  refine flatten_pairwise (k2 p items) (fun a b => k1 p items a < k1 p items b ∨ (k1 p items a = k1 p items b ∧ ix items a < ix items b)) _ _ fun k hk => ?_
  have hg := playF_goes (s := s) _ (feeds2_lt h items (leaveF (pass1 p s items))) k
  refine ⟨fun id hid => ?_, ?_⟩
  · have hg := hg.subset hid
    unfold goes at hg
    obtain ⟨f, hf, rfl⟩ := List.mem_map.1 hg
    obtain ⟨hf1, hf2⟩ := List.mem_filter.1 hf
    obtain ⟨id', hx, rfl⟩ := List.mem_map.1 hf1
    simp only [decide_eq_true_eq] at hf2
    show (st2 p items id').toNat = k
    omega
  · have hsub := hg.trans (goes_sub _ k)
    rw [feeds2_items] at hsub
    exact (leave1_pw h s hnd).sublist hsub
/-- Seats along the route have growing places. -/
theorem seat_lt {p : Seq.Plan} (h : POk p) {i j : Nat} {a b : Seq.Seat} (ha : p.seats[i]? = some a) (hb : p.seats[j]? = some b) (hl : lexLt a b) : i < j := by
  rcases Nat.lt_trichotomy i j with g | g | g
  · exact g
  · subst g
    rw [ha] at hb; cases hb
    unfold lexLt at hl; omega
  · exfalso
    have hpw := List.pairwise_iff_getElem.1 h.pw
    obtain ⟨hi, rfl⟩ := List.getElem?_eq_some_iff.1 ha
    obtain ⟨hj, rfl⟩ := List.getElem?_eq_some_iff.1 hb
    have := hpw j i hj hi g
    unfold lexLt at hl this; omega
/-- The index of a stop's seat. -/
def seatIx (p : Seq.Plan) (stop : Int) : Nat := p.seats.findIdx fun s => s.stop == stop
theorem seatIx_get {p : Seq.Plan} {stop : Int} {t : Seq.Seat} (h : findF p.seats stop = some t) : p.seats[seatIx p stop]? = some t := by
  unfold findF at h
  unfold seatIx
  generalize p.seats = l at h
  induction l with
  | nil => simp at h
  | cons y r ih =>
    rw [List.find?_cons] at h
    rw [List.findIdx_cons]
    split at h
    · rename_i hy; cases h; simp [hy]
    · rename_i hy; simp [hy]; exact ih h
/-- THE ORDER: along the route, those of a stop in the order of feeding. -/
theorem order_lex {p : Seq.Plan} (h : POk p) (s : Int) {items : List It} (hnd : (items.map It.id).Nodup) {i : Nat} {a b : Int} (ha : (orderF p s items)[i]? = some a) (hb : (orderF p s items)[i + 1]? = some b) {x y : It} (hx : itF items a = some x) (hy : itF items b = some y) :
    seatIx p x.stop < seatIx p y.stop ∨ (seatIx p x.stop = seatIx p y.stop ∧ ix items a < ix items b) := by
  obtain ⟨x', t, _, _, e1, _, _, g1, g2, g3⟩ := order_mem h s hnd (List.mem_of_getElem? ha)
  obtain ⟨y', u, _, _, e2, _, _, g4, g5, g6⟩ := order_mem h s hnd (List.mem_of_getElem? hb)
  rw [hx] at e1; cases e1
  rw [hy] at e2; cases e2
  have hpw := List.pairwise_iff_getElem.1 (order_pw h s hnd)
  obtain ⟨hi, e1⟩ := List.getElem?_eq_some_iff.1 ha
  obtain ⟨hj, e2⟩ := List.getElem?_eq_some_iff.1 hb
  have := hpw i (i + 1) hi hj (by omega)
  rw [e1, e2, g2, g3, g5, g6] at this
  have r1 := h.range t (findF_mem g1).1
  have r2 := h.range u (findF_mem g4).1
  have q1 := seatIx_get g1
  have q2 := seatIx_get g4
  by_cases he : t = u
  · right
    subst he
    have : seatIx p x.stop = seatIx p y.stop := by
      rw [← (findF_mem g1).2, ← (findF_mem g4).2]
    omega
  · left
    have hlt : lexLt t u ∨ (t.first = u.first ∧ t.second = u.second) := by
      unfold lexLt
      omega
    rcases hlt with hlt | ⟨e3, e4⟩
    · exact seat_lt h q1 q2 hlt
    · exfalso
      rcases Nat.lt_trichotomy (seatIx p x.stop) (seatIx p y.stop) with g | g | g
      · have := List.pairwise_iff_getElem.1 h.pw _ _ (List.getElem?_eq_some_iff.1 q1).1 (List.getElem?_eq_some_iff.1 q2).1 g
        rw [(List.getElem?_eq_some_iff.1 q1).2, (List.getElem?_eq_some_iff.1 q2).2] at this
        unfold lexLt at this; omega
      · rw [g, q2] at q1; cases q1; exact he rfl
      · have := List.pairwise_iff_getElem.1 h.pw _ _ (List.getElem?_eq_some_iff.1 q2).1 (List.getElem?_eq_some_iff.1 q1).1 g
        rw [(List.getElem?_eq_some_iff.1 q1).2, (List.getElem?_eq_some_iff.1 q2).2] at this
        unfold lexLt at this; omega
end Go.Sx.Srt
namespace Go.Sx.Srt
open Go.Sx.Seq (addAt addAt_len findF lexLt loadOf)
/-- Loads within the capacities, items within the volumes. -/
structure Room (p : Seq.Plan) (items : List It) : Prop where
  vol : ∀ s ∈ p.seats, ((items.map It.stop).count s.stop : Int) ≤ s.vol ∧ 0 ≤ s.vol
  l1 : ∀ k, k < p.caps.length → loadOf Seq.Seat.first k p.seats ≤ p.caps.getD k 0
  l2 : ∀ k, k < p.caps.length → loadOf Seq.Seat.second k p.seats ≤ p.caps.getD k 0
theorem goes_len (l : List Fd) (k : Nat) : (goes l k).length = l.countP fun f => f.st = (k : Int) := by
  unfold goes; rw [List.length_map, List.countP_eq_length_filter]
theorem room1 {p : Seq.Plan} (h : POk p) {items : List It} (hr : Room p items) : ∀ k, k < p.caps.length → ((goes (feeds1 p items) k).length : Int) ≤ p.caps.getD k 0 := by
  intro k hk
  refine Int.le_trans ?_ (hr.l1 k hk)
  refine Int.le_trans ?_ (Seq.count_seats (items := items.map It.stop) (g := Seq.Seat.first) (k := k) p.seats hr.vol)
  rw [goes_len, feeds1, List.countP_map, List.countP_map]
  refine Int.ofNat_le.2 (List.countP_mono_left fun x hx hP => ?_)
  simp only [Function.comp, decide_eq_true_eq] at hP ⊢
  unfold st1 at hP
  cases hs : findF p.seats x.stop with
  | none => rw [hs] at hP; simp only [] at hP; omega
  | some s =>
    rw [hs] at hP
    simp only [] at hP
    obtain ⟨h1, h2⟩ := findF_mem hs
    rw [List.any_eq_true]
    refine ⟨s, h1, ?_⟩
    split at hP
    · simp [h2, hP]
    · omega
theorem room2 {p : Seq.Plan} (h : POk p) {items : List It} (hnd : (items.map It.id).Nodup) (hr : Room p items) (s : Int) : ∀ k, k < p.caps.length → ((goes (feeds2 p items (leaveF (pass1 p s items))) k).length : Int) ≤ p.caps.getD k 0 := by
  intro k hk
  refine Int.le_trans ?_ (hr.l2 k hk)
  refine Int.le_trans ?_ (Seq.count_seats (items := items.map It.stop) (g := Seq.Seat.second) (k := k) p.seats hr.vol)
  rw [goes_len, feeds2, List.countP_map, List.countP_map]
  refine Int.ofNat_le.2 ?_
  have e0 : (leaveF (pass1 p s items)).countP ((fun f : Fd => decide (f.st = (k : Int))) ∘ fun id => ⟨id, st2 p items id⟩) = (leaveF (pass1 p s items)).countP fun id => (leaveF (pass1 p s items)).contains id && decide (st2 p items id = (k : Int)) := by
    apply List.countP_congr
    intro x hx
    simp [hx]
  have e1 : ((leaveF (pass1 p s items)).countP fun id => (leaveF (pass1 p s items)).contains id && decide (st2 p items id = (k : Int))) ≤ (items.map It.id).countP fun id => (leaveF (pass1 p s items)).contains id && decide (st2 p items id = (k : Int)) := by
    rw [← (two_perm1 h s items).countP_eq, List.countP_append]
    omega
  rw [e0]
  refine Nat.le_trans e1 ?_
  rw [List.countP_map]
  refine List.countP_mono_left fun x hx hP => ?_
  simp only [Function.comp, Bool.and_eq_true, decide_eq_true_eq, List.contains_iff_mem] at hP ⊢
  obtain ⟨hP1, hP⟩ := hP
  obtain ⟨x', t, g1, g2, g3, g4, g5⟩ := leave1_mem h s hnd hP1
  rw [itF_find hnd hx] at g3; cases g3
  unfold st2 at hP
  rw [itF_find hnd hx] at hP
  simp only [g5] at hP
  obtain ⟨h1, h2⟩ := findF_mem g5
  rw [List.any_eq_true]
  refine ⟨t, h1, ?_⟩
  split at hP
  · simp [h2, hP]
  · omega
/-- Within the volumes nothing runs over, and nothing is swept. -/
theorem two_room {p : Seq.Plan} (h : POk p) {items : List It} (hnd : (items.map It.id).Nodup) (hr : Room p items) (s : Int) :
    (pass1 p s items).over = [] ∧ (pass1 p s items).swept = List.replicate p.caps.length 0 ∧ (pass2 p s items).over = [] ∧ (pass2 p s items).swept = List.replicate p.caps.length 0 := by
  have a := playF_room (s := s) _ (feeds1_lt h items) (room1 h hr)
  have b := playF_room (s := s) _ (feeds2_lt h items (leaveF (pass1 p s items))) (room2 h hnd hr s)
  exact ⟨a.1, a.2.1, b.1, b.2.1⟩
/-- No stacker holds more than its capacity. -/
theorem two_fits {p : Seq.Plan} (h : POk p) {items : List It} (hnd : (items.map It.id).Nodup) (hr : Room p items) (s : Int) {k : Nat} (hk : k < p.caps.length) :
    (((pass1 p s items).stackers.getD k []).length : Int) ≤ p.caps.getD k 0 ∧ (((pass2 p s items).stackers.getD k []).length : Int) ≤ p.caps.getD k 0 := by
  have a := playF_room (s := s) _ (feeds1_lt h items) (room1 h hr)
  have b := playF_room (s := s) _ (feeds2_lt h items (leaveF (pass1 p s items))) (room2 h hnd hr s)
  have e1 : (pass1 p s items).stackers.getD k [] = goes (feeds1 p items) k := (a.2.2.2 k hk).1
  have e2 : (pass2 p s items).stackers.getD k [] = goes (feeds2 p items (leaveF (pass1 p s items))) k := (b.2.2.2 k hk).1
  rw [e1, e2]
  exact ⟨room1 h hr k hk, room2 h hnd hr s k hk⟩
/-- Items that are read in both passes. -/
def readAll (items : List It) : List It := items.map fun x => ⟨x.id, x.stop, true, true⟩
theorem readAll_stops (items : List It) : (readAll items).map It.stop = items.map It.stop := by simp [readAll, Function.comp_def]
theorem Room.all {p : Seq.Plan} {items : List It} (h : Room p items) : Room p (readAll items) := ⟨by rw [readAll_stops]; exact h.vol, h.l1, h.l2⟩
end Go.Sx.Srt
namespace Go.Sx.Srt
open Go.Sx.Seq (findF lexLt loadOf)
/-! ## passes -/
def capN (cs : List UInt8) (n : Nat) : List Int := (List.range n).map fun i => 1 + ((cs.getD i 0).toNat : Int) % 16
def capL (cs : List UInt8) : List Int := if cs.length = 0 then [3] else capN cs (min cs.length 12)
def fdN (n : Nat) (l : List UInt8) (k : Nat) : List Fd := (List.range k).map fun (i : Nat) => ⟨1 + (37 * (i : Int)) % 151, ((l.getD i 0).toNat : Int) % ((n : Int) + 1) - 1⟩
def fdL (n : Nat) (l : List UInt8) : List Fd := fdN n l (min l.length 150)
/-! ## routes and items -/
def stopN (vs : List UInt8) (n : Nat) : List Seq.Stop := (List.range n).map fun (i : Nat) => ⟨500 - 3 * (i : Int), 1 + ((vs.getD i 0).toNat : Int) % 4⟩
def stopL (vs : List UInt8) : List Seq.Stop := stopN vs (min vs.length 40)
/-- The capacities of the machine for a route. -/
def capB (cs : List UInt8) : List Int := (capL cs).map fun c => c + 4
def itAt (l : List Seq.Stop) (ps us : List UInt8) (i : Nat) : It :=
  ⟨1 + 7 * (i : Int), ((l[(ps.getD i 0).toNat % (l.length + 1)]?).map Seq.Stop.id).getD 0,
    if i < us.length then decide ((us.getD i 0).toNat % 8 ≠ 0) else true, if i < us.length then decide ((us.getD i 0).toNat % 8 ≠ 1) else true⟩
def itN (l : List Seq.Stop) (ps us : List UInt8) (n : Nat) : List It := (List.range n).map (itAt l ps us)
def itL (l : List Seq.Stop) (ps us : List UInt8) : List It := itN l ps us (min ps.length 200)
/-- Items that are valid. -/
structure ItsOk (items : List It) : Prop where
  nd : (items.map It.id).Nodup
  rng : ∀ x ∈ items, 1 ≤ x.id ∧ x.id ≤ 999999
  len : items.length ≤ 2000
theorem badI_false : ∀ {l : List It} {met : List Int}, badI met l = false ↔ (∀ f ∈ l, 1 ≤ f.id ∧ f.id ≤ 999999) ∧ (l.map It.id).Nodup ∧ ∀ f ∈ l, f.id ∉ met
  | [], met => by simp [badI]
  | f :: r, met => by
    rw [badI]
    by_cases h : (1 ≤ f.id ∧ f.id ≤ 999999) ∧ f.id ∉ met
    · rw [if_pos h, badI_false]
      simp only [List.mem_cons, List.map_cons, List.nodup_cons, List.mem_append, List.mem_map, List.not_mem_nil, or_false]
      constructor
      · rintro ⟨h1, h2, h3⟩
        refine ⟨?_, ⟨?_, h2⟩, ?_⟩
        · rintro x (rfl | hx)
          · exact h.1
          · exact h1 x hx
        · rintro ⟨x, hx, e⟩
          exact h3 x hx (.inr e)
        · rintro x (rfl | hx)
          · exact h.2
          · exact fun g => h3 x hx (.inl g)
      · rintro ⟨h1, ⟨h2, h3⟩, h4⟩
        refine ⟨fun x hx => h1 x (.inr hx), h3, fun x hx => ?_⟩
        rintro (g | g)
        · exact h4 x (.inr hx) g
        · exact h2 ⟨x, hx, g⟩
    · rw [if_neg h]
      constructor
      · intro g; cases g
      · rintro ⟨h1, _, h3⟩
        exact absurd ⟨h1 f List.mem_cons_self, h3 f List.mem_cons_self⟩ h
theorem ItsOk.e0 {items : List It} (h : ItsOk items) : badI [] items = false := badI_false.2 ⟨h.rng, h.nd, by simp⟩
theorem twoE_ok {l : List Seq.Stop} {caps : List Int} {p : Seq.Plan} (h : Seq.Good l caps p) (hm : Seq.machineOk caps) (hr : Seq.routeFrom [] l) (hl : l.length ≤ 1000) {s : Int} (hs : 0 ≤ s ∧ s ≤ 1000) {items : List It} (hi : ItsOk items) : twoE p s items = 0 := by
  unfold twoE
  rw [h.check hm hr hl, if_neg (by simp), if_neg (by omega), if_neg (by have := hi.len; omega), hi.e0]
  rfl
/-! ## the two passes are runs -/
end Go.Sx.Srt
namespace Go.Sx.Srt
open Go.Sx.Seq (addAt addAt_len)
structure Bd (k : Nat) (m : M) : Prop where
  ov : m.over.length ≤ k
  rj : m.rej.length ≤ k
  ev : m.evs.length ≤ 2 * k
  st : ∀ j, (m.stackers.getD j []).length ≤ k
  hd : ∀ j, 0 ≤ m.held.getD j 0 ∧ m.held.getD j 0 ≤ k
  sw : ∀ j, 0 ≤ m.swept.getD j 0 ∧ m.swept.getD j 0 ≤ k
  lf : -9223372036854775808 ≤ m.left ∧ m.left ≤ 9223372036854775807
theorem getD_rep {α : Type} (n j : Nat) (a : α) : (List.replicate n a).getD j a = a := by
  by_cases h : j < n <;> simp [h]
theorem Bd.new (n : Nat) {s : Int} (hs : -9223372036854775808 ≤ s ∧ s ≤ 9223372036854775807) : Bd 0 (M.new n s) :=
  ⟨Nat.le_refl _, Nat.le_refl _, Nat.le_refl _, fun j => by simp only [M.new, getD_rep]; simp, fun j => by simp only [M.new, getD_rep]; omega, fun j => by simp only [M.new, getD_rep]; omega, hs⟩
theorem Bd.take {k : Nat} {m : M} (h : Bd k m) (caps : List Int) (f : Fd) : Bd (k + 1) (takeF caps m f) := by
  obtain ⟨h1, h2, h3, h4, h5, h6, h7⟩ := h
  have hp : ∀ j, ((putAt m.stackers f.st.toNat f.item).getD j []).length ≤ k + 1 := fun j => by
    have := h4 j
    rw [putAt_getD, List.length_append]; split <;> simp only [List.length_cons, List.length_nil] <;> omega
  have ha : ∀ (l : List Int), (∀ j, 0 ≤ l.getD j 0 ∧ l.getD j 0 ≤ k) → ∀ j, 0 ≤ (addAt l f.st.toNat 1).getD j 0 ∧ (addAt l f.st.toNat 1).getD j 0 ≤ ((k + 1 : Nat) : Int) := fun l hl j => by
    have := hl j
    rw [addAt_getD]; split <;> omega
  have hs : ∀ j, 0 ≤ (m.held.set f.st.toNat 0).getD j 0 ∧ (m.held.set f.st.toNat 0).getD j 0 ≤ k := fun j => by
    have := h5 j
    rw [getD_set]; split <;> omega
  rcases take_cases caps m f with ⟨_, e⟩ | ⟨_, _, e⟩ | ⟨_, _, _, e⟩ | ⟨_, _, _, e⟩ <;> rw [e]
  · exact ⟨by simp [note]; omega, by simp [note]; omega, by simp [note]; omega, fun j => by have := h4 j; simp only [note]; omega, fun j => by have := h5 j; simp only [note]; omega, fun j => by have := h6 j; simp only [note]; omega, h7⟩
  · exact ⟨by simp [note, stack]; omega, by simp [note, stack]; omega, by simp [note, stack]; omega, hp, ha _ h5, fun j => by have := h6 j; simp only [note, stack]; omega, h7⟩
  · exact ⟨by simp [note, stack]; omega, by simp [note, stack]; omega, by simp [note, stack]; omega, hp, ha _ hs, ha _ h6, by simp only [note, stack]; omega⟩
  · exact ⟨by simp [note]; omega, by simp [note]; omega, by simp [note]; omega, fun j => by have := h4 j; simp only [note]; omega, fun j => by have := h5 j; simp only [note]; omega, fun j => by have := h6 j; simp only [note]; omega, h7⟩
theorem playF_bd (caps : List Int) {s : Int} (hs : -9223372036854775808 ≤ s ∧ s ≤ 9223372036854775807) : ∀ l : List Fd, Bd l.length (playF caps s l) := by
  have : ∀ (l : List Fd) (k : Nat) (m : M), Bd k m → Bd (k + l.length) (l.foldl (takeF caps) m) := by
    intro l
    induction l with
    | nil => exact fun k m h => h
    | cons f r ih =>
      intro k m h
      have := ih (k + 1) _ (h.take caps f)
      simp only [List.length_cons, List.foldl_cons]
      rwa [show k + (r.length + 1) = k + 1 + r.length from by omega]
  intro l
  have := this l 0 _ (Bd.new caps.length hs)
  rwa [Nat.zero_add] at this
end Go.Sx.Srt
namespace Go.Sx.Srt
open Go.Sx.Seq (addAt addAt_len findF lexLt misF misF_in misF_first misF_next)
theorem lexLt_trans {a b c : Seq.Seat} (h1 : lexLt a b) (h2 : lexLt b c) : lexLt a c := by
  unfold lexLt at *; omega
theorem misF_pw {n : Nat} : ∀ {l : List Seq.Seat} {q : Option Seq.Seat} {i : Nat}, misF n q i l = none → l.Pairwise lexLt ∧ ∀ a, q = some a → ∀ b ∈ l, lexLt a b
  | [], _, _, _ => ⟨List.Pairwise.nil, by simp⟩
  | s :: r, q, i, h => by
    by_cases hr : (0 ≤ s.first ∧ s.first < n) ∧ (0 ≤ s.second ∧ s.second < n)
    case neg => rw [misF_in hr] at h; cases h
    cases q with
    | none =>
      rw [misF_first hr] at h
      obtain ⟨h1, h2⟩ := misF_pw h
      exact ⟨List.Pairwise.cons (fun b hb => h2 s rfl b hb) h1, by simp⟩
    | some a =>
      rw [misF_next hr] at h
      split at h
      · cases h
      · rename_i hc
        obtain ⟨h1, h2⟩ := misF_pw h
        have hl : lexLt a s := by unfold lexLt; omega
        refine ⟨List.Pairwise.cons (fun b hb => h2 s rfl b hb) h1, fun a' ha b hb => ?_⟩
        cases ha
        rcases List.mem_cons.1 hb with rfl | hb
        · exact hl
        · exact lexLt_trans hl (h2 s rfl b hb)
theorem POk.of_check {p : Seq.Plan} (h : (Seq.checkF p).2 = 0) : POk p ∧ Seq.checkF p = (0, 0) := by
  unfold Seq.checkF at h ⊢
  by_cases hm : Seq.machineOk p.caps
  case neg => rw [if_pos hm] at h; cases h
  rw [if_neg (fun g => g hm)] at h ⊢
  by_cases hb : 1000 < p.seats.length
  · rw [if_pos hb] at h; cases h
  rw [if_neg hb] at h ⊢
  cases hw : Seq.wrongF [] 0 (p.seats.map Seq.Seat.asStop) with
  | some i => rw [hw] at h; cases h
  | none =>
  rw [hw] at h
  simp only [] at h ⊢
  cases hmi : Seq.misF p.caps.length none 0 p.seats with
  | some i => rw [hmi] at h; cases h
  | none =>
  rw [hmi] at h
  simp only [] at h ⊢
  by_cases hl : p.first.length ≠ p.caps.length ∨ p.second.length ≠ p.caps.length
  · rw [if_pos hl] at h; cases h
  rw [if_neg hl] at h ⊢
  cases hd : Seq.diffF 0 p.first p.second (Seq.loadsF Seq.Seat.first p.caps.length p.seats) (Seq.loadsF Seq.Seat.second p.caps.length p.seats) with
  | some i => rw [hd] at h; cases h
  | none =>
  rw [hd] at h
  simp only [] at h ⊢
  cases ho : Seq.overF 0 p.caps (Seq.loadsF Seq.Seat.first p.caps.length p.seats) (Seq.loadsF Seq.Seat.second p.caps.length p.seats) with
  | some i => rw [ho] at h; cases h
  | none =>
  have hr := Seq.wrongF_none.1 hw
  refine ⟨⟨hm, ?_, fun s hs => Seq.misF_range hmi s hs, (misF_pw hmi).1⟩, rfl⟩
  have := hr.2.1
  simpa [List.map_map, Function.comp_def, Seq.Seat.asStop] using this
theorem playF_flat_len {caps : List Int} {s : Int} {l : List Fd} (hl : ∀ f ∈ l, f.st < caps.length) : (leaveF (playF caps s l)).length ≤ l.length := by
  have := (playF_all (s := s) hl).length_eq
  unfold allOf at this
  rw [List.length_append, List.length_map] at this
  unfold leaveF
  omega
theorem feeds1_take (p : Seq.Plan) (items : List It) {j : Nat} {x : It} (h : items[j]? = some x) : feeds1 p (items.take (j + 1)) = feeds1 p (items.take j) ++ [⟨x.id, st1 p x⟩] := by
  rw [List.take_add_one, h]
  simp [feeds1]
theorem feeds2_take (p : Seq.Plan) (items : List It) (l : List Int) {j : Nat} {x : Int} (h : l[j]? = some x) : feeds2 p items (l.take (j + 1)) = feeds2 p items (l.take j) ++ [⟨x, st2 p items x⟩] := by
  rw [List.take_add_one, h]
  simp [feeds2]
end Go.Sx.Srt
namespace Go.Sx.Srt
open Go.Sx.Seq (addAt addAt_len)
/-- What one feed does: what came before it, what comes behind it, and what the whole play has of it. -/
def stepAt (caps : List Int) (P P' m : M) (x st : Int) : Prop :=
  (st = -1 ∧ P'.held = P.held ∧ P'.left = P.left ∧ P'.evs.length = P.evs.length + 1 ∧ m.evs[P.evs.length]? = some ⟨4, x, -1⟩ ∧ m.rej[P.rej.length]? = some x ∧ P'.rej.length = P.rej.length + 1 ∧ P'.over.length = P.over.length ∧ P'.stackers = P.stackers) ∨
  (∃ k h c, st = ((k : Nat) : Int) ∧ k < caps.length ∧ P.held[k]? = some h ∧ caps[k]? = some c ∧ (0 ≤ h ∧ h < c) ∧ P'.held = P.held.set k (h + 1) ∧ P'.left = P.left ∧ P'.evs.length = P.evs.length + 1 ∧ m.evs[P.evs.length]? = some ⟨1, x, k⟩ ∧
    (m.stackers.getD k [])[(P.stackers.getD k []).length]? = some x ∧ P'.stackers = P.stackers.set k (P.stackers.getD k [] ++ [x]) ∧ P'.rej.length = P.rej.length ∧ P'.over.length = P.over.length) ∨
  (∃ k c, st = ((k : Nat) : Int) ∧ k < caps.length ∧ P.held[k]? = some c ∧ caps[k]? = some c ∧ 1 ≤ c ∧ 0 < P.left ∧ P'.held = (P.held.set k 0).set k (0 + 1) ∧ P'.left = P.left - 1 ∧ P'.evs.length = P.evs.length + 2 ∧ m.evs[P.evs.length]? = some ⟨2, x, k⟩ ∧ m.evs[P.evs.length + 1]? = some ⟨1, x, k⟩ ∧
    (m.stackers.getD k [])[(P.stackers.getD k []).length]? = some x ∧ P'.stackers = P.stackers.set k (P.stackers.getD k [] ++ [x]) ∧ P'.rej.length = P.rej.length ∧ P'.over.length = P.over.length) ∨
  (∃ k c, st = ((k : Nat) : Int) ∧ k < caps.length ∧ P.held[k]? = some c ∧ caps[k]? = some c ∧ 1 ≤ c ∧ P.left = 0 ∧ P'.held = P.held ∧ P'.left = 0 ∧ P'.evs.length = P.evs.length + 1 ∧ m.evs[P.evs.length]? = some ⟨3, x, k⟩ ∧
    m.over[P.over.length]? = some x ∧ (m.stackers.getD k [])[(P.stackers.getD k []).length]? ≠ some x ∧ P'.stackers = P.stackers ∧ P'.rej.length = P.rej.length ∧ P'.over.length = P.over.length + 1)
end Go.Sx.Srt
namespace Go.Sx.Srt
open Go.Sx.Seq (findF loadOf)
def ixI (p : Seq.Plan) (y : It) : Int := (seatIx p y.stop : Int)
def keepF (p : Seq.Plan) (K : List It) (y : It) : List It := match findF p.seats y.stop with
  | none => K
  | some t => if (((K.map (ixI p)).count (ixI p y) : Nat) : Int) < t.vol then K ++ [y] else K
def someF (p : Seq.Plan) (items : List It) : List It := items.foldl (keepF p) []
structure KOk (p : Seq.Plan) (K l : List It) : Prop where
  sub : K.Sublist l
  fnd : ∀ x ∈ K, ∃ t, findF p.seats x.stop = some t
  vol : ∀ t ∈ p.seats, ((K.map It.stop).count t.stop : Int) ≤ t.vol
theorem findF_self {p : Seq.Plan} (h : POk p) {t : Seq.Seat} (ht : t ∈ p.seats) : findF p.seats t.stop = some t := by
  cases hf : findF p.seats t.stop with
  | none =>
    unfold findF at hf
    have := List.find?_eq_none.1 hf t ht
    simp at this
  | some u =>
    obtain ⟨h1, h2⟩ := findF_mem hf
    obtain ⟨i, hi⟩ := List.getElem?_of_mem h1
    obtain ⟨j, hj⟩ := List.getElem?_of_mem ht
    have e1 : (p.seats.map Seq.Seat.stop)[i]? = some t.stop := by rw [List.getElem?_map, hi]; simp [h2]
    have e2 : (p.seats.map Seq.Seat.stop)[j]? = some t.stop := by rw [List.getElem?_map, hj]; rfl
    have := (List.getElem?_inj (List.getElem?_eq_some_iff.1 e1).1 h.nd).1 (e1.trans e2.symm)
    subst this
    rw [hi] at hj
    exact hj
theorem ix_eq {p : Seq.Plan} {x y : It} {t u : Seq.Seat} (hx : findF p.seats x.stop = some t) (hy : findF p.seats y.stop = some u) : ixI p x = ixI p y ↔ x.stop = y.stop := by
  constructor
  · intro h
    unfold ixI at h
    have e : seatIx p x.stop = seatIx p y.stop := by omega
    have h1 := seatIx_get hx
    have h2 := seatIx_get hy
    rw [e, h2] at h1
    cases h1
    rw [← (findF_mem hx).2, (findF_mem hy).2]
  · intro h
    unfold ixI
    rw [h]
theorem count_ix {p : Seq.Plan} {K : List It} (hf : ∀ x ∈ K, ∃ t, findF p.seats x.stop = some t) {y : It} {u : Seq.Seat} (hy : findF p.seats y.stop = some u) : (K.map (ixI p)).count (ixI p y) = (K.map It.stop).count y.stop := by
  rw [List.count_eq_countP, List.count_eq_countP, List.countP_map, List.countP_map]
  apply List.countP_congr
  intro x hx
  obtain ⟨t, ht⟩ := hf x hx
  have := ix_eq ht hy
  simp only [Function.comp, beq_iff_eq]
  exact this
theorem KOk.nil (p : Seq.Plan) (h : ∀ t ∈ p.seats, 0 ≤ t.vol) : KOk p [] [] := ⟨List.Sublist.refl _, by simp, fun t ht => by simpa using h t ht⟩
theorem KOk.skip {p : Seq.Plan} {K l : List It} (h : KOk p K l) (y : It) : KOk p K (l ++ [y]) := ⟨h.sub.trans (List.sublist_append_left _ _), h.fnd, h.vol⟩
theorem KOk.take {p : Seq.Plan} (hp : POk p) {K l : List It} (h : KOk p K l) {y : It} {u : Seq.Seat} (hy : findF p.seats y.stop = some u) (hc : (((K.map (ixI p)).count (ixI p y) : Nat) : Int) < u.vol) : KOk p (K ++ [y]) (l ++ [y]) := by
  refine ⟨h.sub.append (List.Sublist.refl _), fun x hx => ?_, fun t ht => ?_⟩
  · rcases List.mem_append.1 hx with hx | hx
    · exact h.fnd x hx
    · simp at hx; subst hx; exact ⟨u, hy⟩
  · rw [List.map_append, List.count_append]
    have h1 := h.vol t ht
    rw [count_ix h.fnd hy] at hc
    by_cases e : t.stop = y.stop
    · have h2 := findF_self hp ht
      rw [e, hy] at h2
      cases h2
      rw [e]
      simp only [List.map_cons, List.map_nil, List.count_cons_self, List.count_nil]
      omega
    · have : ([y].map It.stop).count t.stop = 0 := by
        rw [List.count_eq_zero]
        simp [e]
      rw [this]
      omega
theorem KOk.keep {p : Seq.Plan} (hp : POk p) {K l : List It} (h : KOk p K l) (y : It) : KOk p (keepF p K y) (l ++ [y]) := by
  unfold keepF
  cases hy : findF p.seats y.stop with
  | none => exact h.skip y
  | some u =>
    simp only []
    split
    · rename_i hc; exact h.take hp hy hc
    · exact h.skip y
theorem ItsOk.sub {K l : List It} (h : ItsOk l) (hs : K.Sublist l) : ItsOk K :=
  ⟨List.Nodup.sublist (hs.map _) h.nd, fun x hx => h.rng x (hs.subset hx), Nat.le_trans hs.length_le h.len⟩
theorem vols' {l : List Seq.Stop} {caps : List Int} {p : Seq.Plan} (h : Seq.Good l caps p) (hr : Seq.routeFrom [] l) : ∀ s ∈ p.seats, 0 ≤ s.vol := fun s hs => by
  have := hr.1 s.asStop (by rw [← h.stops]; exact List.mem_map.2 ⟨s, hs, rfl⟩)
  unfold Seq.Stop.ok Seq.Seat.asStop at this
  simp only [] at this
  omega
theorem Good.room {l : List Seq.Stop} {caps : List Int} {p : Seq.Plan} (h : Seq.Good l caps p) (hr : Seq.routeFrom [] l) {K : List It} (hk : ∀ t ∈ p.seats, ((K.map It.stop).count t.stop : Int) ≤ t.vol) : Room p K := by
  have hv := vols' h hr
  have ho := (Seq.overF_none (by rw [h.first_eq, Seq.loadsF_len]) (by rw [h.second_eq, Seq.loadsF_len])).1 h.over
  refine ⟨fun t ht => ⟨hk t ht, hv t ht⟩, fun k hkc => ?_, fun k hkc => ?_⟩
  · rw [h.caps_eq] at hkc ⊢
    have hc := List.getElem?_eq_getElem hkc
    have := ho k _ _ _ hc (by rw [h.first_eq]; exact Seq.loadsF_get _ hkc _) (by rw [h.second_eq]; exact Seq.loadsF_get _ hkc _)
    simpa [hc] using this.1
  · rw [h.caps_eq] at hkc ⊢
    have hc := List.getElem?_eq_getElem hkc
    have := ho k _ _ _ hc (by rw [h.first_eq]; exact Seq.loadsF_get _ hkc _) (by rw [h.second_eq]; exact Seq.loadsF_get _ hkc _)
    simpa [hc] using this.2
theorem Good.within {l : List Seq.Stop} {caps : List Int} {p : Seq.Plan} (h : Seq.Good l caps p) {K : List It} (hf : ∀ x ∈ K, ∃ t, findF p.seats x.stop = some t) (hk : ∀ t ∈ p.seats, ((K.map It.stop).count t.stop : Int) ≤ t.vol) (hl : K.length ≤ 2000) : Seq.Within l (K.map It.stop) := by
  have hst := h.stops
  refine ⟨fun x hx => ?_, fun s hs => ?_, by simpa using hl⟩
  · obtain ⟨y, hy, rfl⟩ := List.mem_map.1 hx
    obtain ⟨t, ht⟩ := hf y hy
    obtain ⟨h1, h2⟩ := findF_mem ht
    exact ⟨t.asStop, by rw [← hst]; exact List.mem_map.2 ⟨t, h1, rfl⟩, h2⟩
  · rw [← hst] at hs
    obtain ⟨t, ht, rfl⟩ := List.mem_map.1 hs
    exact hk t ht
end Go.Sx.Srt
namespace Go.Sx.Top
open Go.Sx.Seq (findF addAt addAt_len)
open Go.Sx.Srt
/-! ## the machine -/
def roomL (cs : List UInt8) : List Int := cs.map fun c => 1 + (c.toNat : Int) % 40
theorem roomL_len (cs : List UInt8) : (roomL cs).length = cs.length := by simp [roomL]
theorem roomL_snoc (l : List UInt8) (c : UInt8) : roomL (l ++ [c]) = roomL l ++ [1 + (c.toNat : Int) % 40] := by simp [roomL]
theorem roomL_mem {cs : List UInt8} : ∀ c ∈ roomL cs, 1 ≤ c ∧ c ≤ 40 := fun c hc => by
  obtain ⟨b, _, rfl⟩ := List.mem_map.1 hc
  omega
theorem roomL_ok {cs : List UInt8} (h : 1 ≤ cs.length ∧ cs.length ≤ 8) : Seq.machineOk (roomL cs) :=
  ⟨by rw [roomL_len]; omega, fun c hc => by have := roomL_mem c hc; omega⟩
/-! ## volumes, items, stops -/
def volT (R : Nat) (ml : List UInt8) : List Int := ml.foldl (fun v b => addAt v (b.toNat % R) 1) (List.replicate R 0)
theorem volT_nil (R : Nat) : volT R [] = List.replicate R 0 := rfl
theorem volT_snoc (R : Nat) (ml : List UInt8) (b : UInt8) : volT R (ml ++ [b]) = addAt (volT R ml) (b.toNat % R) 1 := by simp [volT]
theorem volT_len (R : Nat) : ∀ ml : List UInt8, (volT R ml).length = R := by
  apply list_snoc
  · simp [volT]
  · intro l b h
    rw [volT_snoc, addAt_len, h]
theorem volT_get (R : Nat) {s : Nat} (hs : s < R) : ∀ ml : List UInt8, (volT R ml).getD s 0 = ((ml.countP fun b => decide (b.toNat % R = s) : Nat) : Int) := by
  apply list_snoc
  · simp [volT, hs]
  · intro l b h
    have hl := volT_len R l
    rw [volT_snoc, List.countP_append]
    unfold addAt
    by_cases e : b.toNat % R = s
    · rw [e, List.getD_eq_getElem?_getD, List.getElem?_set_self (by omega)]
      rw [h]; simp [e]
    · rw [List.getD_eq_getElem?_getD, List.getElem?_set_ne e, ← List.getD_eq_getElem?_getD, h]
      simp [e]
theorem volT_le (R : Nat) {s : Nat} (hs : s < R) (ml : List UInt8) : 0 ≤ (volT R ml).getD s 0 ∧ (volT R ml).getD s 0 ≤ ml.length := by
  rw [volT_get R hs]
  have := List.countP_le_length (p := fun b : UInt8 => decide (b.toNat % R = s)) (l := ml)
  omega
def itB (route : List Int) (i : Nat) (b : UInt8) : It := ⟨(i : Int) + 1, route.getD (b.toNat % route.length) 0, decide ((b.toNat : Int) % 11 ≠ 0), decide ((b.toNat : Int) % 13 ≠ 0)⟩
def itT (route : List Int) (ml : List UInt8) : List It := ml.mapIdx (itB route)
theorem itT_len (route : List Int) (ml : List UInt8) : (itT route ml).length = ml.length := by simp [itT]
theorem itT_get {route : List Int} {ml : List UInt8} {i : Nat} {x : It} (h : (itT route ml)[i]? = some x) : ∃ b, ml[i]? = some b ∧ x = itB route i b := by
  unfold itT at h
  rw [List.getElem?_mapIdx] at h
  cases hb : ml[i]? with
  | none => rw [hb] at h; cases h
  | some b => rw [hb] at h; exact ⟨b, rfl, (Option.some.inj h).symm⟩
theorem itT_at {route : List Int} {ml : List UInt8} {i : Nat} {b : UInt8} (h : ml[i]? = some b) : (itT route ml)[i]? = some (itB route i b) := by
  unfold itT
  rw [List.getElem?_mapIdx, h]; rfl
theorem itT_snoc (route : List Int) (ml : List UInt8) (b : UInt8) : itT route (ml ++ [b]) = itT route ml ++ [itB route ml.length b] := by
  unfold itT
  rw [List.mapIdx_append]
  simp
theorem itT_id {route : List Int} {ml : List UInt8} {i : Nat} {x : It} (h : (itT route ml)[i]? = some x) : x.id = (i : Int) + 1 := by
  obtain ⟨b, _, rfl⟩ := itT_get h
  rfl
theorem itT_ok {route : List Int} {ml : List UInt8} (hl : ml.length ≤ 60) : ItsOk (itT route ml) := by
  refine ⟨?_, fun x hx => ?_, by rw [itT_len]; omega⟩
  · rw [List.Nodup, List.pairwise_iff_getElem]
    intro i j hi hj hij e
    rw [List.length_map] at hj
    rw [← Option.some_inj, ← List.getElem?_eq_getElem, ← List.getElem?_eq_getElem] at e
    have h1 := List.getElem?_eq_getElem hj
    have h2 := List.getElem?_eq_getElem (show i < (itT route ml).length by omega)
    rw [List.getElem?_map, List.getElem?_map, h1, h2] at e
    have := itT_id h1
    have := itT_id h2
    simp only [Option.map_some, Option.some.injEq] at e
    omega
  · obtain ⟨i, hi⟩ := List.getElem?_of_mem hx
    have := itT_id hi
    have := (List.getElem?_eq_some_iff.1 hi).1
    rw [itT_len] at this
    omega
def stT (route : List Int) (vol : List Int) : List Seq.Stop := route.mapIdx fun i x => ⟨x, max (vol.getD i 0) 1⟩
theorem stT_len (route vol : List Int) : (stT route vol).length = route.length := by simp [stT]
theorem stT_at {route vol : List Int} {i : Nat} {x : Int} (h : route[i]? = some x) : (stT route vol)[i]? = some ⟨x, max (vol.getD i 0) 1⟩ := by
  unfold stT
  rw [List.getElem?_mapIdx, h]; rfl
theorem stT_get {route vol : List Int} {i : Nat} {s : Seq.Stop} (h : (stT route vol)[i]? = some s) : ∃ x, route[i]? = some x ∧ s = ⟨x, max (vol.getD i 0) 1⟩ := by
  unfold stT at h
  rw [List.getElem?_mapIdx] at h
  cases hb : route[i]? with
  | none => rw [hb] at h; cases h
  | some b => rw [hb] at h; exact ⟨b, rfl, (Option.some.inj h).symm⟩
theorem stT_snoc (route vol : List Int) (x : Int) : stT (route ++ [x]) vol = stT route vol ++ [⟨x, max (vol.getD route.length 0) 1⟩] := by
  unfold stT
  rw [List.mapIdx_append]
  simp
theorem stT_ids (route vol : List Int) : (stT route vol).map Seq.Stop.id = route := by
  apply List.ext_getElem?
  intro i
  rw [List.getElem?_map]
  cases h : route[i]? with
  | none =>
    rw [List.getElem?_eq_none (by rw [stT_len]; exact List.getElem?_eq_none_iff.1 h)]; rfl
  | some x => rw [stT_at h]; rfl
theorem stT_route {route : List Int} {ml : List UInt8} (hnd : route.Nodup) (hid : ∀ x ∈ route, 1 ≤ x ∧ x ≤ 999999) (hl : ml.length ≤ 60) : Seq.routeFrom [] (stT route (volT route.length ml)) := by
  refine ⟨fun s hs => ?_, by rw [stT_ids]; exact hnd, by simp⟩
  obtain ⟨i, hi⟩ := List.getElem?_of_mem hs
  obtain ⟨x, hx, rfl⟩ := stT_get hi
  have h1 := hid x (List.mem_of_getElem? hx)
  have h2 := volT_le route.length (List.getElem?_eq_some_iff.1 hx).1 ml
  unfold Seq.Stop.ok
  dsimp only
  omega
theorem stops_count {route : List Int} (hnd : route.Nodup) {i : Nat} {x : Int} (hx : route[i]? = some x) (ml : List UInt8) : (((itT route ml).map It.stop).count x : Int) = (volT route.length ml).getD i 0 := by
  have hi := (List.getElem?_eq_some_iff.1 hx).1
  rw [volT_get route.length hi]
  have e : (itT route ml).map It.stop = ml.map fun b => route.getD (b.toNat % route.length) 0 := by
    apply List.ext_getElem?
    intro j
    rw [List.getElem?_map, List.getElem?_map]
    cases h : ml[j]? with
    | none => rw [List.getElem?_eq_none (by rw [itT_len]; exact List.getElem?_eq_none_iff.1 h)]; rfl
    | some b => rw [itT_at h]; rfl
  rw [e, List.count_eq_countP, List.countP_map]
  congr 1
  apply List.countP_congr
  intro b _
  simp only [Function.comp, beq_iff_eq, decide_eq_true_eq]
  have hb : b.toNat % route.length < route.length := Nat.mod_lt _ (by omega)
  rw [List.getD_eq_getElem?_getD, List.getElem?_eq_getElem hb, Option.getD_some]
  constructor
  · intro h
    have h2 : route[b.toNat % route.length]? = route[i]? := by rw [hx, List.getElem?_eq_getElem hb, h]
    exact (List.getElem?_inj hb hnd).1 h2
  · intro h
    have h2 : route[b.toNat % route.length]? = some x := by rw [h]; exact hx
    rw [List.getElem?_eq_getElem hb] at h2
    exact Option.some.inj h2
/-! ## a plan for the route -/
structure Made (route : List Int) (cs ml : List UInt8) (p : Seq.Plan) : Prop where
  nd : route.Nodup
  id : ∀ x ∈ route, 1 ≤ x ∧ x ≤ 999999
  len : ml.length ≤ 60
  r0 : 0 < route.length ∧ route.length ≤ 60
  mach : 1 ≤ cs.length ∧ cs.length ≤ 8
  good : Seq.Good (stT route (volT route.length ml)) (roomL cs) p
section
variable {route : List Int} {cs ml : List UInt8} {p : Seq.Plan}
theorem Made.rt (h : Made route cs ml p) : Seq.routeFrom [] (stT route (volT route.length ml)) := stT_route h.nd h.id h.len
theorem Made.mok (h : Made route cs ml p) : Seq.machineOk (roomL cs) := roomL_ok h.mach
theorem Made.pok (h : Made route cs ml p) : POk p := Good.pok h.good h.mok h.rt
theorem Made.stops (h : Made route cs ml p) : p.seats.map Seq.Seat.stop = route := by
  have := congrArg (List.map Seq.Stop.id) h.good.stops
  rw [stT_ids, List.map_map] at this
  exact this
theorem Made.fit (h : Made route cs ml p) : ∀ t ∈ p.seats, (((itT route ml).map It.stop).count t.stop : Int) ≤ t.vol := fun t ht => by
  have h1 : t.asStop ∈ stT route (volT route.length ml) := by rw [← h.good.stops]; exact List.mem_map.2 ⟨t, ht, rfl⟩
  obtain ⟨i, hi⟩ := List.getElem?_of_mem h1
  obtain ⟨x, hx, e⟩ := stT_get hi
  have e1 : t.stop = x := congrArg Seq.Stop.id e
  have e2 : t.vol = max ((volT route.length ml).getD i 0) 1 := congrArg Seq.Stop.vol e
  rw [e1, e2, stops_count h.nd hx ml]
  omega
theorem Made.room (h : Made route cs ml p) : Room p (itT route ml) := Good.room h.good h.rt h.fit
theorem Made.its (h : Made route cs ml p) : ItsOk (itT route ml) := itT_ok h.len
theorem Made.caps (h : Made route cs ml p) : p.caps = roomL cs := h.good.caps_eq
/-- The stop of an item, and its place along the route. -/
theorem Made.at (h : Made route cs ml p) {x : It} (hx : x ∈ itT route ml) : ∃ (j : Nat) (t : Seq.Seat), route[j]? = some x.stop ∧ findF p.seats x.stop = some t ∧ seatIx p x.stop = j := by
  obtain ⟨i, hi⟩ := List.getElem?_of_mem hx
  obtain ⟨b, _, rfl⟩ := itT_get hi
  have hb : b.toNat % route.length < route.length := Nat.mod_lt _ h.r0.1
  have e : (itB route i b).stop = route[b.toNat % route.length] := by
    show route.getD _ 0 = _
    rw [List.getD_eq_getElem?_getD, List.getElem?_eq_getElem hb, Option.getD_some]
  have hs : route[b.toNat % route.length]? = some (itB route i b).stop := by rw [e, List.getElem?_eq_getElem hb]
  have hm : (itB route i b).stop ∈ p.seats.map Seq.Seat.stop := by rw [h.stops]; exact List.mem_of_getElem? hs
  obtain ⟨t, ht, hts⟩ := List.mem_map.1 hm
  have hf := findF_self h.pok ht
  rw [hts] at hf
  refine ⟨_, t, hs, hf, ?_⟩
  have h1 := seatIx_get hf
  have h2 : route[seatIx p (itB route i b).stop]? = some (itB route i b).stop := by
    have h2 : (p.seats.map Seq.Seat.stop)[seatIx p (itB route i b).stop]? = some (itB route i b).stop := by rw [List.getElem?_map, h1]; simp [hts]
    rw [h.stops] at h2; exact h2
  exact ((List.getElem?_inj hb h.nd).1 (hs.trans h2.symm)).symm
theorem Made.two (h : Made route cs ml p) : twoE p 0 (itT route ml) = 0 := twoE_ok h.good h.mok h.rt (by rw [stT_len]; have := h.r0; omega) (by omega) h.its
theorem Made.over (h : Made route cs ml p) : (pass1 p 0 (itT route ml)).over.length = 0 ∧ (pass2 p 0 (itT route ml)).over.length = 0 := by
  have := two_room h.pok h.its.nd h.room 0
  rw [this.1, this.2.2.1]; exact ⟨rfl, rfl⟩
theorem Made.stk (h : Made route cs ml p) : (pass1 p 0 (itT route ml)).stackers.length = (roomL cs).length ∧ (pass2 p 0 (itT route ml)).stackers.length = (roomL cs).length := by
  rw [← h.caps]; exact ⟨(playF_sz _ _ _).st, (playF_sz _ _ _).st⟩
theorem Made.fits1 (h : Made route cs ml p) {k : Nat} {l : List Int} {c : Int} (hl : (pass1 p 0 (itT route ml)).stackers[k]? = some l) (hc : (roomL cs)[k]? = some c) : (l.length : Int) ≤ c := by
  have hk : k < p.caps.length := by rw [h.caps]; exact (List.getElem?_eq_some_iff.1 hc).1
  have := (two_fits h.pok h.its.nd h.room 0 hk).1
  rw [List.getD_eq_getElem?_getD, hl, h.caps, List.getD_eq_getElem?_getD, hc] at this
  exact this
theorem Made.fits2 (h : Made route cs ml p) {k : Nat} {l : List Int} {c : Int} (hl : (pass2 p 0 (itT route ml)).stackers[k]? = some l) (hc : (roomL cs)[k]? = some c) : (l.length : Int) ≤ c := by
  have hk : k < p.caps.length := by rw [h.caps]; exact (List.getElem?_eq_some_iff.1 hc).1
  have := (two_fits h.pok h.its.nd h.room 0 hk).2
  rw [List.getD_eq_getElem?_getD, hl, h.caps, List.getD_eq_getElem?_getD, hc] at this
  exact this
/-! ## what is read -/
def bothB (x : It) : Bool := x.first && x.second
def readN (l : List It) : Nat := l.countP bothB
theorem readN_snoc (l : List It) (x : It) : readN (l ++ [x]) = readN l + if bothB x = true then 1 else 0 := by
  unfold readN; rw [List.countP_append]
  by_cases hb : bothB x = true <;> simp [hb]
theorem readN_le (l : List It) : readN l ≤ l.length := List.countP_le_length
def bothI (items : List It) (id : Int) : Bool := match itF items id with
  | some x => bothB x
  | none => false
theorem both_count {items : List It} (hnd : (items.map It.id).Nodup) : ((items.map It.id).filter (bothI items)).length = readN items := by
  unfold readN
  rw [← List.countP_eq_length_filter, List.countP_map]
  apply List.countP_congr
  intro x hx
  simp only [Function.comp]
  unfold bothI
  rw [itF_find hnd hx]
theorem Made.found (h : Made route cs ml p) {id : Int} {x : It} (hx : itF (itT route ml) id = some x) : ∃ t, findF p.seats x.stop = some t ∧ t ∈ p.seats := by
  obtain ⟨j, t, _, ht, _⟩ := h.at (itF_mem hx).1
  exact ⟨t, ht, (findF_mem ht).1⟩
theorem Made.rej1 (h : Made route cs ml p) : ∀ id ∈ (pass1 p 0 (itT route ml)).rej, bothI (itT route ml) id = false := fun id hid => by
  unfold pass1 at hid
  rw [playF_refused] at hid
  obtain ⟨f, hf, rfl⟩ := List.mem_map.1 hid
  obtain ⟨hf1, hf2⟩ := List.mem_filter.1 hf
  obtain ⟨x, hx, rfl⟩ := List.mem_map.1 hf1
  have hi := itF_find h.its.nd hx
  obtain ⟨t, ht, htm⟩ := h.found hi
  have hr := h.pok.range t htm
  unfold bothI
  dsimp only at hf2 ⊢
  rw [hi]
  dsimp only
  simp only [decide_eq_true_eq] at hf2
  unfold st1 at hf2
  rw [ht] at hf2
  unfold bothB
  cases hfi : x.first with
  | false => rfl
  | true => rw [hfi] at hf2; simp at hf2; omega
theorem Made.rej2 (h : Made route cs ml p) : ∀ id ∈ (pass2 p 0 (itT route ml)).rej, bothI (itT route ml) id = false := fun id hid => by
  unfold pass2 at hid
  rw [playF_refused] at hid
  obtain ⟨f, hf, rfl⟩ := List.mem_map.1 hid
  obtain ⟨hf1, hf2⟩ := List.mem_filter.1 hf
  obtain ⟨x, hx, rfl⟩ := List.mem_map.1 hf1
  unfold bothI
  dsimp only at hf2 ⊢
  cases hi : itF (itT route ml) x with
  | none => rfl
  | some y =>
    obtain ⟨t, ht, htm⟩ := h.found hi
    have hr := h.pok.range t htm
    simp only [decide_eq_true_eq] at hf2
    unfold st2 at hf2
    rw [hi] at hf2
    dsimp only at hf2 ⊢
    rw [ht] at hf2
    unfold bothB
    cases hse : y.second with
    | false => simp
    | true => rw [hse] at hf2; simp at hf2; omega
theorem filter_none {α : Type} {q : α → Bool} {l : List α} (h : ∀ x ∈ l, q x = false) : l.filter q = [] := List.filter_eq_nil_iff.2 fun x hx => by simp [h x hx]
/-- What is read in both passes arrives; all else is rejected. -/
theorem Made.lens (h : Made route cs ml p) : (orderF p 0 (itT route ml)).length = readN (itT route ml) ∧ (pass1 p 0 (itT route ml)).rej.length + (pass2 p 0 (itT route ml)).rej.length + readN (itT route ml) = ml.length := by
  have p1 := two_perm1 h.pok 0 (itT route ml)
  have p2 := two_perm2 h.pok 0 (itT route ml)
  have ho := two_room h.pok h.its.nd h.room 0
  rw [ho.1, List.nil_append] at p1
  rw [ho.2.2.1, List.nil_append] at p2
  have p3 := (List.Perm.append_right (pass1 p 0 (itT route ml)).rej p2).trans p1
  have hf := p3.filter (bothI (itT route ml))
  rw [List.filter_append, List.filter_append, filter_none h.rej1, filter_none h.rej2, List.append_nil, List.append_nil] at hf
  have hall : (orderF p 0 (itT route ml)).filter (bothI (itT route ml)) = orderF p 0 (itT route ml) := List.filter_eq_self.2 fun id hid => by
    obtain ⟨x, t, _, _, hi, h1, h2, _⟩ := order_mem h.pok 0 h.its.nd hid
    unfold bothI bothB
    rw [hi]
    simp [h1, h2]
  rw [hall] at hf
  have e1 := hf.length_eq
  rw [both_count h.its.nd] at e1
  have e2 := p3.length_eq
  rw [List.length_append, List.length_append, List.length_map, itT_len] at e2
  exact ⟨e1, by omega⟩
/-! ## the order -/
def seatOf (p : Seq.Plan) (items : List It) (id : Int) : Int := match itF items id with
  | some x => (seatIx p x.stop : Int)
  | none => 0
def lastT (p : Seq.Plan) (items : List It) (i : Nat) : Int × Int := match i with
  | 0 => (-1, 0)
  | j + 1 => (seatOf p items ((orderF p 0 items).getD j 0), (orderF p 0 items).getD j 0)
theorem Made.step (h : Made route cs ml p) {i : Nat} {id : Int} (hid : (orderF p 0 (itT route ml))[i]? = some id) : ∃ (k : Nat) (x : It) (j : Nat), (itT route ml)[k]? = some x ∧ id = (k : Int) + 1 ∧ x.first = true ∧ x.second = true ∧ route[j]? = some x.stop ∧ lastT p (itT route ml) (i + 1) = ((j : Int), id) ∧
    ¬ (j : Int) < (lastT p (itT route ml) i).1 ∧ ¬ ((j : Int) = (lastT p (itT route ml) i).1 ∧ id ≤ (lastT p (itT route ml) i).2) := by
  obtain ⟨x, t, hx, hxid, hi, h1, h2, _⟩ := order_mem h.pok 0 h.its.nd (List.mem_of_getElem? hid)
  obtain ⟨k, hk⟩ := List.getElem?_of_mem hx
  have hki := itT_id hk
  obtain ⟨j, t', hj, _, hsj⟩ := h.at hx
  have hl : lastT p (itT route ml) (i + 1) = ((j : Int), id) := by
    unfold lastT
    dsimp only
    rw [List.getD_eq_getElem?_getD, hid, Option.getD_some]
    unfold seatOf
    rw [hi]
    dsimp only
    rw [hsj]
  refine ⟨k, x, j, hk, by omega, h1, h2, hj, hl, ?_⟩
  cases i with
  | zero => simp only [lastT]; omega
  | succ i =>
    obtain ⟨a, ha⟩ : ∃ a, (orderF p 0 (itT route ml))[i]? = some a := ⟨_, List.getElem?_eq_getElem (by have := (List.getElem?_eq_some_iff.1 hid).1; omega)⟩
    obtain ⟨y, u, hy, hyid, hyi, _⟩ := order_mem h.pok 0 h.its.nd (List.mem_of_getElem? ha)
    obtain ⟨k2, hk2⟩ := List.getElem?_of_mem hy
    have hk2i := itT_id hk2
    have hlex := order_lex h.pok 0 h.its.nd ha hid hyi hi
    have e1 : ix (itT route ml) a = k2 := by rw [← hyid]; exact ix_of h.its.nd hk2
    have e2 : ix (itT route ml) id = k := by rw [← hxid]; exact ix_of h.its.nd hk
    rw [e1, e2, hsj] at hlex
    unfold lastT
    dsimp only
    rw [List.getD_eq_getElem?_getD, ha, Option.getD_some]
    unfold seatOf
    rw [hyi]
    dsimp only
    omega
end
/-! ## the map of the stops -/
def atL (route : List Int) : List (Int × Int) := route.mapIdx fun i x => (x, (i : Int))
theorem atL_get {route : List Int} {i : Nat} {x : Int} (h : route[i]? = some x) : (atL route)[i]? = some (x, (i : Int)) := by
  unfold atL; rw [List.getElem?_mapIdx, h]; rfl
theorem atL_keys (route : List Int) : (atL route).map Prod.fst = route := by
  apply List.ext_getElem?
  intro i
  rw [List.getElem?_map]
  unfold atL
  rw [List.getElem?_mapIdx]
  cases route[i]? <;> rfl
theorem atL_snoc (route : List Int) (x : Int) : atL (route ++ [x]) = atL route ++ [(x, (route.length : Int))] := by
  unfold atL
  rw [List.mapIdx_append]
  simp
end Go.Sx.Top
namespace Go.Proofs.Ythcoaljmgkhglaa
open Go Go.Sx Go.RowKit
attribute [local irreducible] WL WC WQ WR St Exit.then Exit.inBlock Exit.noGoto bodyPost roundPost beginK YR RG BM Calls B AgainD MeetD
/-! ## slices put together -/
theorem grow_calls (n : Nat) (hn : n ≤ 1000000) (w : World) : Calls Try.prog 40 #[.slice none 0 0, .int .i64 n] w fun e w' => ∃ v N, e = .returned v ∧ (∃ a cap, v = .slice a 0 cap ∧ (∀ (α : Type) (enc : α → List Value), OW 3 1 enc (.slice a 0 cap) [] N) ∧ ∀ x ∈ N, x.own = true) ∧ Rep w w' N ∧ ∀ x ∈ N, x.own = true := by
  have hsub : (n : Int) - (((0 : Nat) : Int) - ((0 : Nat) : Int)) = n := by omega
  by_cases h0 : n = 0
  · subst h0
    refine f_enter2 Try.func40 rfl Try.ntmps40 rfl (Rep.start w) ?_
    repeat' (first | ((with_reducible apply o_cap); infer_instance; exact rfl; exact rfl) | ((with_reducible first | apply o_move | apply o_assign); exact rfl; exact rfl) | ((with_reducible first | apply o_lss | apply o_gtr); exact rfl; exact rfl; exact rfl) | ((with_reducible apply o_sub); exact rfl; exact rfl; exact rfl; (constructor <;> omega)) | ((with_reducible apply o_len); infer_instance; exact rfl; exact rfl) | ((with_reducible first | apply c_seq | apply c_block | apply c_region | apply c_nil | apply c_ret | apply c_exit | apply c_skip)) | ((with_reducible apply c_cond_f); exact rfl; exact fF_) | ((with_reducible first | apply e_then | apply e_then_ret | apply e_then_exit | apply e_in | apply e_in_ret | apply e_in_same)))
    apply r_body; apply res1 Try.results40; exact rV_; intro w' hw
    exact ⟨_, [], rfl, ⟨none, 0, rfl, fun α enc => OW.nil, by simp⟩, hw, by simp⟩
  · refine f_enter2 Try.func40 rfl Try.ntmps40 rfl (Rep.start w) ?_
    repeat' (first | ((with_reducible apply o_cap); infer_instance; exact rfl; exact rfl) | ((with_reducible apply o_sliceH (h' := 0)); infer_instance; infer_instance; exact rfl; exact rfl; (exact .inr ⟨_, rfl⟩); (exact Nat.zero_le _); exact rfl) | ((with_reducible first | apply o_move | apply o_assign); exact rfl; exact rfl) | ((with_reducible first | apply o_lss | apply o_gtr); exact rfl; exact rfl; exact rfl) | ((with_reducible apply o_sub); exact rfl; exact rfl; exact rfl; (constructor <;> omega)) | ((with_reducible apply o_len); infer_instance; exact rfl; exact rfl) | ((with_reducible first | apply c_seq | apply c_block | apply c_region | apply c_nil | apply c_ret | apply c_exit | apply c_skip)) | ((with_reducible apply c_cond_t); exact rfl; exact tT_) | ((with_reducible apply c_cond_f); exact rfl; exact fF_) | ((with_reducible first | apply e_then | apply e_then_ret | apply e_then_exit | apply e_in | apply e_in_ret | apply e_in_same)))
    rw [hsub]
    repeat' (first | ((with_reducible apply o_appZ (m := n)); infer_instance; infer_instance; infer_instance; exact rfl; decide; exact rfl; exact rfl; (refine ⟨by omega, by omega, by omega⟩); exact rfl; intro b cap s hc hs) | ((with_reducible apply o_sliceH (h' := 0)); infer_instance; infer_instance; exact rfl; exact rfl; (exact .inr ⟨_, rfl⟩); (exact Nat.zero_le _); exact rfl) | ((with_reducible first | apply o_move | apply o_assign); exact rfl; exact rfl) | ((with_reducible apply o_len); infer_instance; exact rfl; exact rfl) | ((with_reducible first | apply c_seq | apply c_block | apply c_region | apply c_nil | apply c_ret | apply c_exit | apply c_skip)) | ((with_reducible first | apply e_then | apply e_then_ret | apply e_then_exit | apply e_in | apply e_in_ret | apply e_in_same)))
    apply r_body; apply res1 Try.results40; exact rV_; intro w' hw
    exact ⟨_, _, rfl, ⟨_, _, rfl, fun α enc => OW.row (xs := []) (s := s) hs ⟨Nat.zero_le _, Nat.zero_le _⟩, by simp⟩, hw, by simp⟩
theorem flat_take_le {α : Type} (xss : List (List α)) (i : Nat) : (xss.take i).flatten.length ≤ xss.flatten.length := by
  conv => rhs; rw [← List.take_append_drop i xss, List.flatten_append, List.length_append]
  omega
theorem flat_take_snoc {α : Type} {xss : List (List α)} {i : Nat} {xs : List α} (h : xss[i]? = some xs) : (xss.take (i + 1)).flatten = (xss.take i).flatten ++ xs := by rw [take_snoc h]; simp
set_option maxHeartbeats 1000000 in
theorem concat_calls {α : Type} {enc : α → List Value} (hl : ∀ x, (enc x).length = 1) (h1 : ∀ x, (enc x).all (·.oneCell') = true) {rv : Value} {ss : List SD} {xss : List (List α)} (w : World) (hr : SV w 1 encS rv ss) (hs : SL w 1 enc ss xss) (hn : xss.flatten.length ≤ 1000000) :
    Calls Try.prog 36 #[rv] w fun e w' => ∃ v N, e = .returned v ∧ (∃ a cap, v = .slice a xss.flatten.length cap ∧ OW 3 1 enc (.slice a xss.flatten.length cap) xss.flatten N ∧ ∀ x ∈ N, x.own = true) ∧ Rep w w' N ∧ ∀ x ∈ N, x.own = true := by
  obtain ⟨a0, c0, rfl, hc0, hop⟩ := hr.open
  have hlen := hs.1
  refine f_enter1 Try.func36 rfl Try.ntmps36 rfl (Rep.start w) ?_
  repeat' (first | ((with_reducible first | apply o_move | apply o_assign); exact rfl; exact rfl) | ((with_reducible apply o_len); infer_instance; exact rfl; exact rfl) | ((with_reducible first | apply c_seq | apply c_block | apply c_region | apply c_nil | apply c_ret | apply c_exit | apply c_skip)) | ((with_reducible first | apply e_then | apply e_then_ret | apply e_then_exit | apply e_in | apply e_in_ret | apply e_in_same)))
  apply c_loop (σ := Nat × Nat) (Fs := fun t => [(11, .int .i64 t.1), (10, .int .i64 ss.length), (9, .slice a0 ss.length c0), (3, .int .i64 t.2), (0, .slice a0 ss.length c0)])
    (Ls := fun t => []) (I := fun t => t.1 ≤ ss.length ∧ t.2 = (xss.take t.1).flatten.length) (μ := fun t => ss.length - t.1) (s0 := (0, 0))
  · exact ⟨Nat.zero_le _, by simp⟩
  · exact fS_
  · exact hS_
  rintro ⟨i, m⟩ ⟨hi, hm⟩
  dsimp only at hi hm ⊢
  have hb0 := flat_take_le xss i
  by_cases hlt : i < ss.length
  · obtain ⟨⟨sa, sn, sc⟩, hx⟩ : ∃ s, ss[i]? = some s := ⟨_, List.getElem?_eq_getElem hlt⟩
    obtain ⟨xs, hy⟩ : ∃ xs, xss[i]? = some xs := ⟨_, List.getElem?_eq_getElem (by omega)⟩
    have hsv := hs.2 i _ _ hx hy
    obtain ⟨_, _, e1, hc1, _⟩ := hsv.open
    cases e1
    obtain ⟨b, off, cc, e, fz, rfl, hk, hp⟩ := hop (by omega)
    have g1 : cc[off + i * 1]? = some (.slice sa xs.length sc) := hp.one hx rfl
    have hb1 := flat_take_le xss (i + 1)
    have e2 := flat_take_snoc hy
    have e3 : (xss.take (i + 1)).flatten.length = (xss.take i).flatten.length + xs.length := by rw [e2, List.length_append]
    repeat' (first | ((with_reducible first | apply o_move | apply o_assign); exact rfl; exact rfl) | ((with_reducible apply gdo_load); first | refine wo_load (h := ?_) | refine wo_loadAll (h := ?_) | refine wo_loadC (h := ?_) | refine wo_ldV (h := ?_)) | ((with_reducible apply o_lss); exact rfl; exact rfl; exact rfl) | ((with_reducible apply o_add); exact rfl; exact rfl; exact rfl; (constructor <;> omega)) | ((with_reducible apply o_len); infer_instance; exact rfl; exact rfl) | ((with_reducible apply o_idx); infer_instance; infer_instance; exact rfl; exact rfl; (first | exact rfl | omega); exact rfl; (first | assumption | omega | decide)) | ((with_reducible first | apply c_seq | apply c_block | apply c_region | apply c_nil | apply c_ret | apply c_exit | apply c_skip)) | ((with_reducible apply c_cond_t); exact rfl; exact tT_) | ((with_reducible apply c_cond_f); exact rfl; exact fF_) | ((with_reducible first | apply e_then | apply e_then_ret | apply e_then_exit | apply e_in | apply e_in_ret | apply e_in_same)))
    refine l_again (i + 1, m + xs.length) ⟨by dsimp only; omega, by dsimp only; omega⟩ (by dsimp only; omega) ?_ ?_
    · exact fS_
    · exact hS_
  obtain rfl : m = xss.flatten.length := by rw [hm, List.take_of_length_le (by omega)]
  repeat' (first | ((first | ((with_reducible apply o_call_new (f := 40)); exact rfl) | ((with_reducible apply q_call_new (f := 40)); exact rfl; exact rfl; exact sJ_)); exact eV_; exact (fun w _ => grow_calls _ hn w); rintro v N ⟨ga, gc, rfl, hg, og⟩ <;> (try simp only [List.cons_append, List.nil_append])) | ((with_reducible first | apply o_move | apply o_assign); exact rfl; exact rfl) | ((with_reducible apply o_lss); exact rfl; exact rfl; exact rfl) | ((with_reducible apply o_len); infer_instance; exact rfl; exact rfl) | ((with_reducible first | apply c_seq | apply c_block | apply c_region | apply c_nil | apply c_ret | apply c_exit | apply c_skip)) | ((with_reducible apply c_cond_f); exact rfl; exact fF_) | ((with_reducible first | apply e_then | apply e_then_ret | apply e_then_exit | apply e_in | apply e_in_ret | apply e_in_same)))
  have hO0 := hg α enc
  apply c_loop (σ := Nat × (Option Addr × Nat) × List Ent) (Fs := fun t => [(27, .int .i64 t.1), (26, .int .i64 ss.length), (25, .slice a0 ss.length c0), (6, .slice t.2.1.1 (xss.take t.1).flatten.length t.2.1.2)])
    (Ls := fun t => t.2.2 ++ []) (I := fun t => t.1 ≤ ss.length ∧ OW 3 1 enc (.slice t.2.1.1 (xss.take t.1).flatten.length t.2.1.2) (xss.take t.1).flatten t.2.2) (μ := fun t => ss.length - t.1) (s0 := (0, (ga, gc), N))
  · exact ⟨Nat.zero_le _, hO0⟩
  · exact fS_
  · exact hS_
  rintro ⟨k, ⟨ad, cp⟩, N⟩ ⟨hk, hO⟩
  dsimp only at hk hO ⊢
  have hN := hO.own
  by_cases hlt2 : k < ss.length
  · obtain ⟨⟨sa, sn, sc⟩, hx⟩ : ∃ s, ss[k]? = some s := ⟨_, List.getElem?_eq_getElem hlt2⟩
    obtain ⟨xs, hy⟩ : ∃ xs, xss[k]? = some xs := ⟨_, List.getElem?_eq_getElem (by omega)⟩
    have hsv := hs.2 k _ _ hx hy
    obtain ⟨_, _, e1, hc1, _⟩ := hsv.open
    cases e1
    obtain ⟨b, off, cc, e, fz, rfl, hkk, hp⟩ := hop (by omega)
    have g1 : cc[off + k * 1]? = some (.slice sa xs.length sc) := hp.one hx rfl
    have hb1 := flat_take_le xss (k + 1)
    have e2 := flat_take_snoc hy
    have e3 : (xss.take (k + 1)).flatten.length = (xss.take k).flatten.length + xs.length := by rw [e2, List.length_append]
    repeat' (first | (apply o_appH (enc := enc) (ys := xs); infer_instance; infer_instance; infer_instance; exact rfl; exact hl; exact h1; exact rfl; exact rfl; exact rfl; assumption; exact rL_; (exact fun w hw => hsv.keep hw (by exact aO_)); (constructor <;> omega); intro _ _ _ _) | ((with_reducible first | apply o_move | apply o_assign); exact rfl; exact rfl) | ((with_reducible apply gdo_load); first | refine wo_load (h := ?_) | refine wo_loadAll (h := ?_) | refine wo_loadC (h := ?_) | refine wo_ldV (h := ?_)) | ((with_reducible apply o_lss); exact rfl; exact rfl; exact rfl) | ((with_reducible apply o_add); exact rfl; exact rfl; exact rfl; (constructor <;> omega)) | ((with_reducible apply o_idx); infer_instance; infer_instance; exact rfl; exact rfl; (first | exact rfl | omega); exact rfl; (first | assumption | omega | decide)) | ((with_reducible first | apply c_seq | apply c_block | apply c_region | apply c_nil | apply c_ret | apply c_exit | apply c_skip)) | ((with_reducible apply c_cond_t); exact rfl; exact tT_) | ((with_reducible first | apply e_then | apply e_then_ret | apply e_then_exit | apply e_in | apply e_in_ret | apply e_in_same)))
    rename_i a' cp' N' hO'
    rw [← e2] at hO' ⊢
    refine l_again (k + 1, (a', cp'), N') ⟨by dsimp only; omega, hO'⟩ (by dsimp only; omega) ?_ ?_
    · exact fS_
    · exact hS_
  · rw [List.take_of_length_le (by omega)] at hO ⊢
    repeat' (first | ((with_reducible first | apply o_move | apply o_assign); exact rfl; exact rfl) | ((with_reducible apply o_lss); exact rfl; exact rfl; exact rfl) | ((with_reducible first | apply c_seq | apply c_block | apply c_region | apply c_nil | apply c_ret | apply c_exit | apply c_skip)) | ((with_reducible apply c_cond_f); exact rfl; exact fF_) | ((with_reducible first | apply e_then | apply e_then_ret | apply e_then_exit | apply e_in | apply e_in_ret | apply e_in_same)))
    apply r_body; apply res1 Try.results36; exact rV_; intro w' hw
    exact ⟨_, N, rfl, ⟨_, _, rfl, hO, hN⟩, hw.sub (by exact hS_), hN⟩
end Go.Proofs.Ythcoaljmgkhglaa
namespace Go.Proofs.Ythcoaljmgkhglaa
open Go Go.Sx Go.RowKit
attribute [local irreducible] WL WC WQ WR St Exit.then Exit.inBlock Exit.noGoto bodyPost roundPost beginK YR RG BM Calls B
/-! ## loads, stackers -/
theorem zeros_row (n : Nat) : (List.replicate n [Value.int .i64 0]).flatten = (List.replicate n (0 : Int)).flatMap encI ++ [] := by
  rw [List.append_nil, List.flatMap_def, List.map_replicate]
  rfl
theorem loads_step {g : Seq.Seat → Int} {n k i : Nat} {l : List Seq.Seat} {s : Seq.Seat} {z : Int} (hx : l[i]? = some s) (hk : g s = k) (hz : (Seq.loadsF g n (l.take i))[k]? = some z) :
    (Seq.loadsF g n (l.take i)).set k (z + s.vol) = Seq.loadsF g n (l.take (i + 1)) := by
  rw [take_snoc hx, Seq.loadsF_snoc, hk, Seq.addAt]
  simp [hz]
theorem loads_calls {v : Value} {l : List Seq.Seat} {n : Nat} (w : World) (h : SV w 4 encSeat v l) (hl : l.length ≤ 1000) (hn : n ≤ 64) (hs : ∀ s ∈ l, (0 ≤ s.first ∧ s.first < n) ∧ (0 ≤ s.second ∧ s.second < n) ∧ (0 ≤ s.vol ∧ s.vol ≤ 10000)) :
    Calls Try.prog 24 #[v, .int .i64 n] w fun e w' => ∃ v' N, e = .returned v' ∧ (∃ a1 k1 a2 k2 N1 N2, v' = .tuple #[.slice a1 n k1, .slice a2 n k2] ∧ OW 3 1 encI (.slice a1 n k1) (Seq.loadsF Seq.Seat.first n l) N1 ∧ OW 3 1 encI (.slice a2 n k2) (Seq.loadsF Seq.Seat.second n l) N2 ∧ N = N1 ++ N2 ∧ (∀ x ∈ N1, x.own = true) ∧ ∀ x ∈ N2, x.own = true) ∧ Rep w w' N ∧ ∀ x ∈ N, x.own = true := by
  obtain ⟨a0, ca, rfl, hca, hop⟩ := h.open
  refine f_enter2 Try.func24 rfl Try.ntmps24 rfl (Rep.start w) ?_
  repeat' (first | ((with_reducible first | apply o_move | apply o_assign | apply o_faddr0); exact rfl; exact rfl) | ((with_reducible apply o_len); infer_instance; exact rfl; exact rfl) | ((with_reducible first | apply c_seq | apply c_block | apply c_region | apply c_nil | apply c_ret | apply c_exit | apply c_skip)) | ((with_reducible first | apply e_then | apply e_then_ret | apply e_then_exit | apply e_in | apply e_in_ret | apply e_in_same)) | ((with_reducible apply c_regionD0 (id := 1) []); kernel_rfl; kernel_rfl) | ((with_reducible apply q_nil); try simp only [ents, List.cons_append, List.nil_append]) | ((with_reducible first | apply q_move | apply q_assign | apply q_faddr0); exact rfl; exact rfl) | ((with_reducible apply gdq_makeSlice); refine wq_makeSlice (h := fun _ => ?_)))
  rename_i b1 b2
  simp only [zeros_row]
  apply c_loop (σ := Nat × List Int × List Int) (Fs := fun s => [(16, .int .i64 s.1), (15, .int .i64 l.length), (14, .slice a0 l.length ca), (6, slc b1 n), (7, slc b2 n)])
    (Ls := fun s => [⟨b1, Ce (s.2.1.flatMap encI ++ []) 3, true⟩, ⟨b2, Ce (s.2.2.flatMap encI ++ []) 3, true⟩])
    (I := fun s => s.1 ≤ l.length ∧ s.2.1 = Seq.loadsF Seq.Seat.first n (l.take s.1) ∧ s.2.2 = Seq.loadsF Seq.Seat.second n (l.take s.1)) (μ := fun s => l.length - s.1) (s0 := (0, List.replicate n 0, List.replicate n 0))
  · exact ⟨Nat.zero_le _, by simp [Seq.loadsF_nil], by simp [Seq.loadsF_nil]⟩
  · exact fS_
  · exact hS_
  rintro ⟨i, R1, R2⟩ ⟨hi, hR1, hR2⟩
  simp only [] at hi hR1 hR2 ⊢
  have n1 : R1.length = n := by rw [hR1, Seq.loadsF_len]
  have n2 : R2.length = n := by rw [hR2, Seq.loadsF_len]
  by_cases hlt : i < l.length
  · obtain ⟨s, hx⟩ : ∃ s, l[i]? = some s := ⟨_, List.getElem?_eq_getElem hlt⟩
    obtain ⟨b, off, cc, e, fz, rfl, hk, hp⟩ := hop (by omega)
    obtain ⟨st, vo, fi, se⟩ := s
    obtain ⟨hf, hse, hvo⟩ := hs _ (List.mem_of_getElem? hx)
    simp only [] at hf hse hvo
    obtain ⟨f, rfl⟩ := Int.eq_ofNat_of_zero_le hf.1
    obtain ⟨d, rfl⟩ := Int.eq_ofNat_of_zero_le hse.1
    have h1 : ∀ j u, ([.int .i64 st, .int .i64 vo, .int .i64 f, .int .i64 d] : List Value)[j]? = some u → cc[off + i * 4 + j]? = some u := hp.get hx
    have hb : ∀ g k, 0 ≤ Seq.loadOf g k (l.take i) ∧ Seq.loadOf g k (l.take i) ≤ 10000000 := fun g k => by
      have := Seq.loadOf_bounds g k (l := l.take i) (fun s hs' => (hs s (List.mem_of_mem_take hs')).2.2)
      have h2 : ((l.take i).length : Int) ≤ 1000 := by rw [List.length_take]; omega
      omega
    have z1 : R1[f]? = some (Seq.loadOf Seq.Seat.first f (l.take i)) := by rw [hR1]; exact Seq.loadsF_get _ (by omega) _
    have z2 : R2[d]? = some (Seq.loadOf Seq.Seat.second d (l.take i)) := by rw [hR2]; exact Seq.loadsF_get _ (by omega) _
    have b1' := hb Seq.Seat.first f
    have b2' := hb Seq.Seat.second d
    generalize Seq.loadOf Seq.Seat.first f (l.take i) = y1 at z1 b1'
    generalize Seq.loadOf Seq.Seat.second d (l.take i) = y2 at z2 b2'
    have g1 := (Pat.flat encI_len R1 []).one z1 rfl
    have g2 := (Pat.flat encI_len R2 []).one z2 rfl
    repeat' (first | ((apply q_storeS (enc := encI) (kl := 1) (m := f) (o := 0) (xs := R1) (z := y1) (y1 + vo)); infer_instance; exact rfl; exact rfl; exact aT_; exact z1; exact encI_len; omega; exact rfl; exact rfl; (intro u hu; simp at hu; subst hu; rfl); (exact Nat.le_refl _); exact rfl; exact uP_) | ((apply q_storeS (enc := encI) (kl := 1) (m := d) (o := 0) (xs := R2) (z := y2) (y2 + vo)); infer_instance; exact rfl; exact rfl; exact aT_; exact z2; exact encI_len; omega; exact rfl; exact rfl; (intro u hu; simp at hu; subst hu; rfl); (exact Nat.le_refl _); exact rfl; exact uP_) | ((with_reducible first | apply o_move | apply o_assign | apply o_faddr0); exact rfl; exact rfl) | ((with_reducible apply gdo_load); first | refine wo_load (h := ?_) | refine wo_loadAll (h := ?_) | refine wo_loadC (h := ?_) | refine wo_ldV (h := ?_)) | ((with_reducible apply o_lss); exact rfl; exact rfl; exact rfl) | ((with_reducible apply o_add); exact rfl; exact rfl; exact rfl; (constructor <;> omega)) | ((with_reducible apply o_alloc); exact rfl; intro _) | ((with_reducible apply gdo_store); first | refine wo_store1 (h := ?_) | refine wo_storeA (h := ?_)) | ((with_reducible apply o_idx); infer_instance; infer_instance; exact rfl; exact rfl; (first | exact rfl | omega); exact rfl; (first | assumption | omega | decide)) | ((with_reducible first | apply c_seq | apply c_block | apply c_region | apply c_nil | apply c_ret | apply c_exit | apply c_skip)) | ((with_reducible apply c_cond_t); exact rfl; exact tT_) | ((with_reducible first | apply e_then | apply e_then_ret | apply e_then_exit | apply e_in | apply e_in_ret | apply e_in_same)) | ((with_reducible apply c_regionD0 (id := 5) []); kernel_rfl; kernel_rfl) | ((with_reducible apply c_regionD0 (id := 6) []); kernel_rfl; kernel_rfl) | ((with_reducible apply q_nil); try simp only [ents, List.cons_append, List.nil_append]) | ((with_reducible first | apply q_move | apply q_assign | apply q_faddr0); exact rfl; exact rfl) | ((with_reducible apply gdq_load); first | refine wq_load (h := ?_) | refine wq_loadAll (h := ?_) | refine wq_loadC (h := ?_)) | ((with_reducible apply q_add); exact rfl; exact rfl; exact rfl; (constructor <;> omega)) | ((with_reducible apply q_idx); infer_instance; infer_instance; exact rfl; exact rfl; (first | exact rfl | omega); exact rfl; (first | assumption | omega | decide)))
    refine l_again (i + 1, R1.set f (y1 + vo), R2.set d (y2 + vo)) ⟨by simp only []; omega, ?_, ?_⟩ (by simp only []; omega) ?_ ?_
    · simp only []
      subst hR1
      exact loads_step hx rfl z1
    · simp only []
      subst hR2
      exact loads_step hx rfl z2
    · exact fS_
    · exact hS_
  · rw [List.take_of_length_le (by omega)] at hR1 hR2
    have r1 : (R1.flatMap encI ++ []).length = n * 1 := by rw [List.append_nil, flat_len encI_len, n1]
    have r2 : (R2.flatMap encI ++ []).length = n * 1 := by rw [List.append_nil, flat_len encI_len, n2]
    repeat' (first | ((with_reducible first | apply o_move | apply o_assign | apply o_faddr0); exact rfl; exact rfl) | ((with_reducible apply o_lss); exact rfl; exact rfl; exact rfl) | ((with_reducible first | apply c_seq | apply c_block | apply c_region | apply c_nil | apply c_ret | apply c_exit | apply c_skip)) | ((with_reducible apply c_cond_f); exact rfl; exact fF_) | ((with_reducible first | apply e_then | apply e_then_ret | apply e_then_exit | apply e_in | apply e_in_ret | apply e_in_same)))
    apply r_body; apply res2 Try.results24; exact rV_; exact rV_; intro w' hw
    have o1 := OW.row (E := 3) (enc := encI) (b := b1) (cap := n) (xs := R1) (s := []) r1 (by omega)
    have o2 := OW.row (E := 3) (enc := encI) (b := b2) (cap := n) (xs := R2) (s := []) r2 (by omega)
    rw [n1] at o1
    rw [n2] at o2
    rw [← hR1, ← hR2]
    exact ⟨_, _, rfl, ⟨_, _, _, _, _, _, rfl, o1, o2, rfl, by simp, by simp⟩, by simpa using hw, by simp⟩
/-! ## plans -/
/-- A plan as a value. -/
def PV (w : World) (v : Value) (p : Seq.Plan) : Prop := ∃ v1 v2 v3 v4, v = .agg #[v1, v2, v3, v4] ∧ SV w 1 encI v1 p.caps ∧ SV w 4 encSeat v2 p.seats ∧ SV w 1 encI v3 p.first ∧ SV w 1 encI v4 p.second
theorem PV.keep {w0 w : World} {L : List Ent} {v : Value} {p : Seq.Plan} (h : PV w0 v p) (hw : Rep w0 w L) (ho : AO L) : PV w v p := by
  obtain ⟨v1, v2, v3, v4, rfl, h1, h2, h3, h4⟩ := h
  exact ⟨v1, v2, v3, v4, rfl, h1.keep hw ho, h2.keep hw ho, h3.keep hw ho, h4.keep hw ho⟩
theorem PV.open {w : World} {v : Value} {p : Seq.Plan} (h : PV w v p) : ∃ a1 c1 a2 c2 a3 c3 a4 c4, v = .agg #[.slice a1 p.caps.length c1, .slice a2 p.seats.length c2, .slice a3 p.first.length c3, .slice a4 p.second.length c4] ∧
    SV w 1 encI (.slice a1 p.caps.length c1) p.caps ∧ SV w 4 encSeat (.slice a2 p.seats.length c2) p.seats ∧ SV w 1 encI (.slice a3 p.first.length c3) p.first ∧ SV w 1 encI (.slice a4 p.second.length c4) p.second := by
  obtain ⟨v1, v2, v3, v4, rfl, h1, h2, h3, h4⟩ := h
  obtain ⟨a1, c1, rfl, _⟩ := h1.open
  obtain ⟨a2, c2, rfl, _⟩ := h2.open
  obtain ⟨a3, c3, rfl, _⟩ := h3.open
  obtain ⟨a4, c4, rfl, _⟩ := h4.open
  exact ⟨a1, c1, a2, c2, a3, c3, a4, c4, rfl, h1, h2, h3, h4⟩
/-- The seat before. -/
def prevS (l : List Seq.Seat) : Nat → Option Seq.Seat
  | 0 => none
  | i + 1 => l[i]?
set_option maxHeartbeats 1000000 in
theorem misplaced_calls {pv : Value} {p : Seq.Plan} (w : World) (h : PV w pv p) : Calls Try.prog 28 #[pv] w fun e w' => e = .returned (atV (Seq.misF p.caps.length none 0 p.seats)) ∧ Below w.heap.size w w' := by
  obtain ⟨a1, c1, a2, c2, a3, c3, a4, c4, rfl, h1, h2, h3, h4⟩ := h.open
  obtain ⟨caps, l, fs, ss⟩ := p
  simp only [] at h1 h2 h3 h4 ⊢
  obtain ⟨_, _, e2, hc2, hop⟩ := h2.open
  cases e2
  have hc1 : caps.length ≤ 9223372036854775807 := by
    obtain ⟨_, _, _, hc, _⟩ := h1.open
    exact hc.2
  refine f_enter1 Try.func28 rfl Try.ntmps28 rfl (Rep.start w) ?_
  repeat' (first | ((with_reducible first | apply o_move | apply o_assign | apply o_faddr0); exact rfl; exact rfl) | ((with_reducible apply gdo_load); first | refine wo_load (h := ?_) | refine wo_loadAll (h := ?_) | refine wo_loadC (h := ?_) | refine wo_ldV (h := ?_)) | ((with_reducible apply o_box); exact rfl; exact rfl; exact rfl; intro _) | ((with_reducible apply o_len); infer_instance; exact rfl; exact rfl) | ((with_reducible first | apply c_seq | apply c_block | apply c_region | apply c_nil | apply c_ret | apply c_exit | apply c_skip)) | ((with_reducible first | apply e_then | apply e_then_ret | apply e_then_exit | apply e_in | apply e_in_ret | apply e_in_same)))
  rename_i bp
  apply c_loop (σ := Nat) (Fs := fun i => [(10, .int .i64 i), (9, .int .i64 l.length), (8, .slice a2 l.length c2), (1, ptr bp)])
    (Ls := fun i => [⟨bp, Ce [.slice a1 caps.length c1, .slice a2 l.length c2, .slice a3 fs.length c3, .slice a4 ss.length c4] 51, true⟩])
    (I := fun i => i ≤ l.length ∧ Seq.misF caps.length none 0 l = Seq.misF caps.length (prevS l i) i (l.drop i)) (μ := fun i => l.length - i) (s0 := 0)
  · exact ⟨Nat.zero_le _, rfl⟩
  · exact fS_
  · exact hS_
  rintro i ⟨hi, hw0⟩
  by_cases hlt : i < l.length
  · obtain ⟨s, hx⟩ : ∃ s, l[i]? = some s := ⟨_, List.getElem?_eq_getElem hlt⟩
    obtain ⟨b, off, cc, e, fz, rfl, hk, hp⟩ := hop (by omega)
    have g1 := hp.get hx
    rw [drop_at hx] at hw0
    by_cases hr : (0 ≤ s.first ∧ s.first < caps.length) ∧ (0 ≤ s.second ∧ s.second < caps.length)
    · rcases i with _ | j
      · have hw1 : Seq.misF caps.length none 0 l = Seq.misF caps.length (prevS l 1) 1 (l.drop 1) := by rw [hw0]; simp only [prevS]; rw [hx, Seq.misF_first hr]
        repeat' (first | ((with_reducible first | apply o_move | apply o_assign | apply o_faddr0); exact rfl; exact rfl) | ((with_reducible apply gdo_load); first | refine wo_load (h := ?_) | refine wo_loadAll (h := ?_) | refine wo_loadC (h := ?_) | refine wo_ldV (h := ?_)) | ((with_reducible first | apply o_lss | apply o_leq | apply o_geq | apply o_eql); exact rfl; exact rfl; exact rfl) | ((with_reducible first | apply o_add | apply o_sub); exact rfl; exact rfl; exact rfl; (constructor <;> omega)) | ((with_reducible apply o_pick_f); exact rfl; exact fF_; exact rfl; exact rfl) | ((with_reducible apply o_alloc); exact rfl; intro _) | ((with_reducible apply gdo_store); first | refine wo_store1 (h := ?_) | refine wo_storeA (h := ?_)) | ((with_reducible apply o_len); infer_instance; exact rfl; exact rfl) | ((with_reducible apply o_idx); infer_instance; infer_instance; exact rfl; exact rfl; (first | exact rfl | omega); exact rfl; (first | assumption | omega | decide)) | ((with_reducible first | apply g_run); exact rfl; exact gG_) | ((with_reducible first | apply c_seq | apply c_block | apply c_region | apply c_nil | apply c_ret | apply c_exit | apply c_skip)) | ((with_reducible apply c_cond_t); exact rfl; exact tT_) | ((with_reducible apply c_cond_f); exact rfl; exact fF_) | ((with_reducible first | apply e_then | apply e_then_ret | apply e_then_exit | apply e_in | apply e_in_ret | apply e_in_same)))
        refine l_again 1 ⟨by omega, hw1⟩ (by omega) ?_ ?_
        · exact fS_
        · exact hS_
      · obtain ⟨q, hy⟩ : ∃ q, l[j]? = some q := ⟨_, List.getElem?_eq_getElem (by omega)⟩
        have g2 := hp.get hy
        simp only [prevS, hy] at hw0
        rw [Seq.misF_next hr] at hw0
        by_cases hb : s.second < q.second ∨ (s.second = q.second ∧ s.first ≤ q.first)
        · rw [if_pos hb] at hw0
          rw [hw0]
          repeat' (first | (apply o_idx (m := j); infer_instance; infer_instance; exact rfl; exact rfl; omega; exact rfl; omega) | ((with_reducible first | apply o_move | apply o_assign | apply o_faddr0); exact rfl; exact rfl) | ((with_reducible apply gdo_load); first | refine wo_load (h := ?_) | refine wo_loadAll (h := ?_) | refine wo_loadC (h := ?_) | refine wo_ldV (h := ?_)) | ((with_reducible first | apply o_lss | apply o_leq | apply o_geq | apply o_eql); exact rfl; exact rfl; exact rfl) | ((with_reducible first | apply o_add | apply o_sub); exact rfl; exact rfl; exact rfl; (constructor <;> omega)) | ((with_reducible apply o_pick_t); exact rfl; exact tT_; exact rfl; exact rfl) | ((with_reducible apply o_pick_f); exact rfl; exact fF_; exact rfl; exact rfl) | ((with_reducible apply o_alloc); exact rfl; intro _) | ((with_reducible apply gdo_store); first | refine wo_store1 (h := ?_) | refine wo_storeA (h := ?_)) | ((with_reducible apply o_len); infer_instance; exact rfl; exact rfl) | ((with_reducible apply o_idx); infer_instance; infer_instance; exact rfl; exact rfl; (first | exact rfl | omega); exact rfl; (first | assumption | omega | decide)) | ((with_reducible first | apply g_run); exact rfl; exact gG_) | ((with_reducible apply g_skip); exact rfl; exact gG_; exact rfl) | ((with_reducible apply g_skip_undef); exact rfl; exact rfl) | ((with_reducible first | apply c_seq | apply c_block | apply c_region | apply c_nil | apply c_ret | apply c_exit | apply c_skip)) | ((with_reducible apply c_cond_t); exact rfl; exact tT_) | ((with_reducible apply c_cond_f); exact rfl; exact fF_) | ((with_reducible first | apply e_then | apply e_then_ret | apply e_then_exit | apply e_in | apply e_in_ret | apply e_in_same)) | ((with_reducible apply g_split_d); exact rfl; intro hcond; rotate_left; intro hcond; rotate_left))
          all_goals first
            | (exfalso; omega)
            | (apply r_body; apply res2 Try.results28; exact rV_; exact rV_; intro w' hw; exact ⟨rfl, hw.below (by simp)⟩)
        · rw [if_neg hb] at hw0
          have hw1 : Seq.misF caps.length none 0 l = Seq.misF caps.length (prevS l (j + 1 + 1)) (j + 1 + 1) (l.drop (j + 1 + 1)) := by rw [hw0]; simp only [prevS]; rw [hx]
          repeat' (first | (apply o_idx (m := j); infer_instance; infer_instance; exact rfl; exact rfl; omega; exact rfl; omega) | ((with_reducible first | apply o_move | apply o_assign | apply o_faddr0); exact rfl; exact rfl) | ((with_reducible apply gdo_load); first | refine wo_load (h := ?_) | refine wo_loadAll (h := ?_) | refine wo_loadC (h := ?_) | refine wo_ldV (h := ?_)) | ((with_reducible first | apply o_lss | apply o_leq | apply o_geq | apply o_eql); exact rfl; exact rfl; exact rfl) | ((with_reducible first | apply o_add | apply o_sub); exact rfl; exact rfl; exact rfl; (constructor <;> omega)) | ((with_reducible apply o_pick_t); exact rfl; exact tT_; exact rfl; exact rfl) | ((with_reducible apply o_pick_f); exact rfl; exact fF_; exact rfl; exact rfl) | ((with_reducible apply o_alloc); exact rfl; intro _) | ((with_reducible apply gdo_store); first | refine wo_store1 (h := ?_) | refine wo_storeA (h := ?_)) | ((with_reducible apply o_len); infer_instance; exact rfl; exact rfl) | ((with_reducible apply o_idx); infer_instance; infer_instance; exact rfl; exact rfl; (first | exact rfl | omega); exact rfl; (first | assumption | omega | decide)) | ((with_reducible first | apply g_run); exact rfl; exact gG_) | ((with_reducible apply g_skip); exact rfl; exact gG_; exact rfl) | ((with_reducible first | apply c_seq | apply c_block | apply c_region | apply c_nil | apply c_ret | apply c_exit | apply c_skip)) | ((with_reducible apply c_cond_t); exact rfl; exact tT_) | ((with_reducible apply c_cond_f); exact rfl; exact fF_) | ((with_reducible first | apply e_then | apply e_then_ret | apply e_then_exit | apply e_in | apply e_in_ret | apply e_in_same)) | ((with_reducible apply g_split_d); exact rfl; intro hcond; rotate_left; intro hcond; rotate_left))
          all_goals first
            | (exfalso; omega)
            | (refine l_again (j + 1 + 1) ⟨by omega, hw1⟩ (by omega) ?_ ?_
               · exact fS_
               · exact hS_)
    · rw [Seq.misF_in hr] at hw0
      rw [hw0]
      repeat' (first | ((with_reducible first | apply o_move | apply o_assign | apply o_faddr0); exact rfl; exact rfl) | ((with_reducible apply gdo_load); first | refine wo_load (h := ?_) | refine wo_loadAll (h := ?_) | refine wo_loadC (h := ?_) | refine wo_ldV (h := ?_)) | ((with_reducible first | apply o_lss | apply o_leq | apply o_geq | apply o_eql); exact rfl; exact rfl; exact rfl) | ((with_reducible apply o_pick_t); exact rfl; exact tT_; exact rfl; exact rfl) | ((with_reducible apply o_pick_f); exact rfl; exact fF_; exact rfl; exact rfl) | ((with_reducible apply o_alloc); exact rfl; intro _) | ((with_reducible apply gdo_store); first | refine wo_store1 (h := ?_) | refine wo_storeA (h := ?_)) | ((with_reducible apply o_len); infer_instance; exact rfl; exact rfl) | ((with_reducible apply o_idx); infer_instance; infer_instance; exact rfl; exact rfl; (first | exact rfl | omega); exact rfl; (first | assumption | omega | decide)) | ((with_reducible first | apply g_run); exact rfl; exact gG_) | ((with_reducible apply g_skip); exact rfl; exact gG_; exact rfl) | ((with_reducible first | apply c_seq | apply c_block | apply c_region | apply c_nil | apply c_ret | apply c_exit | apply c_skip)) | ((with_reducible apply c_cond_t); exact rfl; exact tT_) | ((with_reducible first | apply e_then | apply e_then_ret | apply e_then_exit | apply e_in | apply e_in_ret | apply e_in_same)) | ((with_reducible apply g_split_d); exact rfl; intro hcond; rotate_left; intro hcond; rotate_left))
      all_goals first
        | (exfalso; omega)
        | (apply r_body; apply res2 Try.results28; exact rV_; exact rV_; intro w' hw; exact ⟨rfl, hw.below (by simp)⟩)
  · have hz : Seq.misF caps.length (prevS l i) i [] = none := by simp [Seq.misF]
    rw [List.drop_of_length_le (by omega), hz] at hw0
    rw [hw0]
    repeat' (first | ((with_reducible first | apply o_move | apply o_assign | apply o_faddr0); exact rfl; exact rfl) | ((with_reducible first | apply o_lss | apply o_leq | apply o_geq | apply o_eql); exact rfl; exact rfl; exact rfl) | ((with_reducible first | apply c_seq | apply c_block | apply c_region | apply c_nil | apply c_ret | apply c_exit | apply c_skip)) | ((with_reducible apply c_cond_f); exact rfl; exact fF_) | ((with_reducible first | apply e_then | apply e_then_ret | apply e_then_exit | apply e_in | apply e_in_ret | apply e_in_same)))
    apply r_body; apply res2 Try.results28; exact rV_; exact rV_; intro w' hw
    exact ⟨rfl, hw.below (by simp)⟩
end Go.Proofs.Ythcoaljmgkhglaa
