/- Machines that are played, passes, two passes by a plan: plain laws, no program in sight. -/
import Derived.Test.YtlahifpnncekgaaQ0
import Derived.Test.YtlahifpnncekgaaQB
import Derived.Test.YtlahifpnncekgaaQC
set_option linter.unusedSimpArgs false
set_option linter.unusedVariables false
namespace Go.Sx.Srt
open Go.Sx.Seq (addAt addAt_len)
structure Fd where
  item : Int
  st : Int
deriving DecidableEq
structure Ev where
  kind : Int
  item : Int
  st : Int
deriving DecidableEq
/-- A machine while it is played. -/
structure M where
  stackers : List (List Int)
  swept : List Int
  over : List Int
  rej : List Int
  evs : List Ev
  held : List Int
  left : Int
def M.new (n : Nat) (sweeps : Int) : M := ⟨List.replicate n [], List.replicate n 0, [], [], [], List.replicate n 0, sweeps⟩
def putAt (l : List (List Int)) (k : Nat) (x : Int) : List (List Int) := l.set k (l.getD k [] ++ [x])
theorem putAt_len (l : List (List Int)) (k : Nat) (x : Int) : (putAt l k x).length = l.length := by simp [putAt]
def stack (m : M) (f : Fd) : M := { m with stackers := putAt m.stackers f.st.toNat f.item, held := addAt m.held f.st.toNat 1 }
def note (m : M) (l : List Ev) : M := { m with evs := m.evs ++ l }
def takeF (caps : List Int) (m : M) (f : Fd) : M :=
  if f.st < 0 then note { m with rej := m.rej ++ [f.item] } [⟨4, f.item, -1⟩] else
  if m.held.getD f.st.toNat 0 < caps.getD f.st.toNat 0 then stack (note m [⟨1, f.item, f.st⟩]) f else
  if 0 < m.left then stack (note { m with left := m.left - 1, held := m.held.set f.st.toNat 0, swept := addAt m.swept f.st.toNat 1 } [⟨2, f.item, f.st⟩, ⟨1, f.item, f.st⟩]) f else
  note { m with over := m.over ++ [f.item] } [⟨3, f.item, f.st⟩]
def playF (caps : List Int) (sweeps : Int) (feeds : List Fd) : M := feeds.foldl (takeF caps) (M.new caps.length sweeps)
theorem playF_snoc (caps : List Int) (sweeps : Int) (l : List Fd) (f : Fd) : playF caps sweeps (l ++ [f]) = takeF caps (playF caps sweeps l) f := by simp [playF]
theorem playF_nil (caps : List Int) (sweeps : Int) : playF caps sweeps [] = M.new caps.length sweeps := rfl
/-- What is kept while a machine with n stackers is played, whatever is fed. -/
structure Sz (n : Nat) (m : M) : Prop where
  st : m.stackers.length = n
  sw : m.swept.length = n
  hd : m.held.length = n
theorem Sz.new (n : Nat) (s : Int) : Sz n (M.new n s) := ⟨by simp [M.new], by simp [M.new], by simp [M.new]⟩
theorem Sz.take {n : Nat} {m : M} (h : Sz n m) (caps : List Int) (f : Fd) : Sz n (takeF caps m f) := by
  have h1 := h.st; have h2 := h.sw; have h3 := h.hd
  unfold takeF
  split
  · exact ⟨h1, h2, h3⟩
  · split
    · exact ⟨by simp [stack, note, putAt_len, h1], by simp [stack, note, h2], by simp [stack, note, addAt_len, h3]⟩
    · split
      · exact ⟨by simp [stack, note, putAt_len, h1], by simp [stack, note, addAt_len, h2], by simp [stack, note, addAt_len, h3]⟩
      · exact ⟨h1, h2, h3⟩
theorem playF_sz (caps : List Int) (s : Int) (l : List Fd) : Sz caps.length (playF caps s l) := by
  unfold playF
  have : ∀ (l : List Fd) (m : M), Sz caps.length m → Sz caps.length (l.foldl (takeF caps) m) := by
    intro l
    induction l with
    | nil => exact fun m h => h
    | cons f r ih => exact fun m h => ih _ (h.take caps f)
  exact this l _ (Sz.new _ _)
/-! ## what is rejected -/
def capsOk (caps : List Int) : Prop := (1 ≤ caps.length ∧ caps.length ≤ 64) ∧ ∀ c ∈ caps, 1 ≤ c ∧ c ≤ 100000
instance (caps : List Int) : Decidable (capsOk caps) := by unfold capsOk; infer_instance
def Fd.ok (n : Nat) (f : Fd) : Prop := (1 ≤ f.item ∧ f.item ≤ 999999) ∧ (-1 ≤ f.st ∧ f.st < n)
instance (n : Nat) (f : Fd) : Decidable (f.ok n) := by unfold Fd.ok; infer_instance
/-- Whether some feed is not valid, or has the item of an earlier one. -/
def badF (n : Nat) : List Int → List Fd → Bool
  | _, [] => false
  | met, f :: r => if f.ok n ∧ f.item ∉ met then badF n (met ++ [f.item]) r else true
def fedF (n : Nat) (l : List Fd) : Int := if 2000 < l.length then 5 else if badF n [] l = true then 291 else 0
def runF (caps : List Int) (sweeps : Int) (l : List Fd) : M × Int :=
  if ¬ capsOk caps then (M.new 0 0, 290) else
  if sweeps < 0 ∨ 1000 < sweeps then (M.new 0 0, 2) else
  if fedF caps.length l ≠ 0 then (M.new 0 0, fedF caps.length l) else
  (playF caps sweeps l, 0)
def needF (caps : List Int) (l : List Fd) : Int × Int :=
  if ¬ capsOk caps then (0, 290) else
  if fedF caps.length l ≠ 0 then (0, fedF caps.length l) else
  ((playF caps l.length l).swept.sum, 0)
/-- Feeds that are valid. -/
structure FdsOk (n : Nat) (l : List Fd) : Prop where
  ok : ∀ f ∈ l, f.ok n
  nd : (l.map Fd.item).Nodup
  len : l.length ≤ 2000
theorem badF_false {n : Nat} : ∀ {l : List Fd} {met : List Int}, badF n met l = false ↔ (∀ f ∈ l, f.ok n) ∧ (l.map Fd.item).Nodup ∧ ∀ f ∈ l, f.item ∉ met
  | [], met => by simp [badF]
  | f :: r, met => by
    rw [badF]
    by_cases h : f.ok n ∧ f.item ∉ met
    · rw [if_pos h, badF_false]
      simp only [List.mem_cons, List.map_cons, List.nodup_cons, List.mem_append, List.mem_map, List.not_mem_nil, or_false]
      constructor
      · rintro ⟨h1, h2, h3⟩
        refine ⟨?_, ⟨?_, h2⟩, ?_⟩
        · rintro x (rfl | hx)
          · exact h.1
          · exact h1 x hx
        · rintro ⟨x, hx, e⟩
          exact h3 x hx (.inr e)
        · rintro x (rfl | hx)
          · exact h.2
          · exact fun g => h3 x hx (.inl g)
      · rintro ⟨h1, ⟨h2, h3⟩, h4⟩
        refine ⟨fun x hx => h1 x (.inr hx), h3, fun x hx => ?_⟩
        rintro (g | g)
        · exact h4 x (.inr hx) g
        · exact h2 ⟨x, hx, g⟩
    · rw [if_neg h]
      constructor
      · intro g; cases g
      · rintro ⟨h1, _, h3⟩
        exact absurd ⟨h1 f List.mem_cons_self, h3 f List.mem_cons_self⟩ h
theorem FdsOk.fed {n : Nat} {l : List Fd} (h : FdsOk n l) : fedF n l = 0 := by
  unfold fedF
  rw [if_neg (by have := h.len; omega), badF_false.2 ⟨h.ok, h.nd, by simp⟩]
  rfl
theorem runF_ok {caps : List Int} {s : Int} {l : List Fd} (hc : capsOk caps) (hs : 0 ≤ s ∧ s ≤ 1000) (hl : FdsOk caps.length l) : runF caps s l = (playF caps s l, 0) := by
  unfold runF
  rw [if_neg (by simp [hc]), if_neg (by omega), if_neg (by rw [hl.fed]; simp)]
theorem needF_ok {caps : List Int} {l : List Fd} (hc : capsOk caps) (hl : FdsOk caps.length l) : needF caps l = ((playF caps l.length l).swept.sum, 0) := by
  unfold needF
  rw [if_neg (by simp [hc]), if_neg (by rw [hl.fed]; simp)]
def leaveF (m : M) : List Int := m.stackers.flatten
end Go.Sx.Srt
namespace Go.Sx.Srt
open Go.Sx.Seq (addAt addAt_len)
theorem getD_set {α : Type} (l : List α) (k j : Nat) (v d : α) : (l.set k v).getD j d = if k = j ∧ k < l.length then v else l.getD j d := by
  simp only [List.getD_eq_getElem?_getD, List.getElem?_set]
  by_cases e : k = j
  · subst e
    by_cases h : k < l.length
    · simp [h]
    · simp [h]
  · simp [e]
theorem getD_out {α : Type} {l : List α} {k : Nat} {d : α} (h : l.length ≤ k) : l.getD k d = d := by simp [h]
theorem getD_in {α : Type} {l : List α} {k : Nat} {d : α} (h : k < l.length) : l[k]? = some (l.getD k d) := by simp [h]
theorem sum_set (l : List Int) (k : Nat) (v : Int) (h : k < l.length) : (l.set k v).sum = l.sum - l.getD k 0 + v := by
  induction l generalizing k with
  | nil => simp at h
  | cons a l ih =>
    cases k with
    | zero => simp; omega
    | succ k =>
      have := ih k (by simpa using h)
      simp only [List.set_cons_succ, List.sum_cons, List.getD_cons_succ]
      omega
theorem sum_addAt (l : List Int) (k : Nat) (v : Int) (h : k < l.length) : (addAt l k v).sum = l.sum + v := by
  unfold addAt; rw [sum_set _ _ _ h]; omega
theorem addAt_getD (l : List Int) (k j : Nat) (v : Int) : (addAt l k v).getD j 0 = l.getD j 0 + if k = j ∧ k < l.length then v else 0 := by
  unfold addAt
  rw [getD_set]
  split
  · rename_i h; rw [h.1]
  · omega
theorem putAt_getD (l : List (List Int)) (k j : Nat) (x : Int) : (putAt l k x).getD j [] = l.getD j [] ++ if k = j ∧ k < l.length then [x] else [] := by
  unfold putAt
  rw [getD_set]
  split
  · rename_i h; rw [h.1]
  · simp
theorem putAt_flatten (l : List (List Int)) (k : Nat) (x : Int) (h : k < l.length) : (putAt l k x).flatten.Perm (l.flatten ++ [x]) := by
  induction l generalizing k with
  | nil => simp at h
  | cons a l ih =>
    cases k with
    | zero =>
      simp only [putAt, List.set_cons_zero, List.flatten_cons, List.getD_cons_zero, List.append_assoc]
      exact List.Perm.append_left _ List.perm_append_comm
    | succ k =>
      have := ih k (by simpa using h)
      simp only [putAt, List.set_cons_succ, List.flatten_cons, List.getD_cons_succ, List.append_assoc] at this ⊢
      exact List.Perm.append_left _ this
/-- The four ways of a feed. -/
theorem take_cases (caps : List Int) (m : M) (f : Fd) :
    (f.st < 0 ∧ takeF caps m f = note { m with rej := m.rej ++ [f.item] } [⟨4, f.item, -1⟩]) ∨
    (0 ≤ f.st ∧ m.held.getD f.st.toNat 0 < caps.getD f.st.toNat 0 ∧ takeF caps m f = stack (note m [⟨1, f.item, f.st⟩]) f) ∨
    (0 ≤ f.st ∧ ¬ m.held.getD f.st.toNat 0 < caps.getD f.st.toNat 0 ∧ 0 < m.left ∧ takeF caps m f = stack (note { m with left := m.left - 1, held := m.held.set f.st.toNat 0, swept := addAt m.swept f.st.toNat 1 } [⟨2, f.item, f.st⟩, ⟨1, f.item, f.st⟩]) f) ∨
    (0 ≤ f.st ∧ ¬ m.held.getD f.st.toNat 0 < caps.getD f.st.toNat 0 ∧ ¬ 0 < m.left ∧ takeF caps m f = note { m with over := m.over ++ [f.item] } [⟨3, f.item, f.st⟩]) := by
  unfold takeF
  by_cases h1 : f.st < 0
  · exact .inl ⟨h1, by rw [if_pos h1]⟩
  · by_cases h2 : m.held.getD f.st.toNat 0 < caps.getD f.st.toNat 0
    · exact .inr (.inl ⟨by omega, h2, by rw [if_neg h1, if_pos h2]⟩)
    · by_cases h3 : 0 < m.left
      · exact .inr (.inr (.inl ⟨by omega, h2, h3, by rw [if_neg h1, if_neg h2, if_pos h3]⟩))
      · exact .inr (.inr (.inr ⟨by omega, h2, h3, by rw [if_neg h1, if_neg h2, if_neg h3]⟩))
/-! ## the numbers -/
structure Inv (caps : List Int) (s : Int) (m : M) : Prop extends Sz caps.length m where
  len : ∀ k, k < caps.length → ((m.stackers.getD k []).length : Int) = caps.getD k 0 * m.swept.getD k 0 + m.held.getD k 0
  held : ∀ k, k < caps.length → 0 ≤ m.held.getD k 0 ∧ m.held.getD k 0 ≤ caps.getD k 0
  swept : ∀ k, k < caps.length → 0 ≤ m.swept.getD k 0
  more : ∀ k, k < caps.length → 0 < m.swept.getD k 0 → 1 ≤ m.held.getD k 0
  left : m.left = s - m.swept.sum
  left0 : 0 ≤ m.left
  over : m.over ≠ [] → m.left = 0
theorem Inv.new {caps : List Int} {s : Int} (hc : ∀ c ∈ caps, 1 ≤ c) (hs : 0 ≤ s) : Inv caps s (M.new caps.length s) := by
  have hz : ∀ k, k < caps.length → (List.replicate caps.length (0 : Int)).getD k 0 = 0 := fun k h => by simp [h]
  have hcap : ∀ k, k < caps.length → 1 ≤ caps.getD k 0 := fun k h => by
    have := hc _ (List.getElem_mem h)
    simpa [h] using this
  refine ⟨Sz.new _ _, ?_, ?_, ?_, ?_, ?_, hs, ?_⟩
  · intro k hk
    simp only [M.new, hz k hk]
    simp [hk]
  · intro k hk
    simp only [M.new, hz k hk]
    have := hcap k hk
    omega
  · intro k hk; simp only [M.new, hz k hk]; omega
  · intro k hk; simp only [M.new, hz k hk]; omega
  · simp only [M.new]
    have : (List.replicate caps.length (0 : Int)).sum = 0 := by
      induction caps.length with
      | zero => rfl
      | succ n ih => simp [List.replicate_succ, ih]
    omega
  · intro h; exact absurd rfl h
theorem Inv.take {caps : List Int} {s : Int} {m : M} {f : Fd} (h : Inv caps s m) (hc : ∀ c ∈ caps, 1 ≤ c) (hf : f.st < caps.length) : Inv caps s (takeF caps m f) := by
  have hsz := h.toSz.take caps f
  have e1 := h.st
  have e2 := h.sw
  have e3 := h.hd
  rcases take_cases caps m f with ⟨_, e⟩ | ⟨h0, h1, e⟩ | ⟨h0, h1, h2, e⟩ | ⟨h0, h1, h2, e⟩
  · rw [e] at hsz ⊢
    exact ⟨hsz, h.len, h.held, h.swept, h.more, h.left, h.left0, h.over⟩
  · rw [e] at hsz ⊢
    have hk : f.st.toNat < caps.length := by omega
    refine ⟨hsz, fun k hk' => ?_, fun k hk' => ?_, h.swept, fun k hk' hp => ?_, h.left, h.left0, h.over⟩
    · have := h.len k hk'
      simp only [stack, note, putAt_getD, addAt_getD, e1, e3]
      by_cases g : f.st.toNat = k
      · subst g; simp only [hk', and_self, if_true, true_and, List.length_append, List.length_cons, List.length_nil]; omega
      · simp only [g, false_and, if_false, List.append_nil, Int.add_zero]; omega
    · have := h.held k hk'
      simp only [stack, note, addAt_getD, e3]
      by_cases g : f.st.toNat = k
      · subst g; simp only [hk', and_self, if_true, true_and, List.length_append, List.length_cons, List.length_nil]; omega
      · simp only [g, false_and, if_false, List.append_nil, Int.add_zero]; omega
    · have := h.more k hk' hp
      have := h.held k hk'
      simp only [stack, note, addAt_getD, e3]
      split <;> omega
  · rw [e] at hsz ⊢
    have hk : f.st.toNat < caps.length := by omega
    have hcap : 1 ≤ caps.getD f.st.toNat 0 := by
      have := hc _ (List.getElem_mem hk)
      simpa [hk] using this
    refine ⟨hsz, fun k hk' => ?_, fun k hk' => ?_, fun k hk' => ?_, fun k hk' hp => ?_, ?_, ?_, ?_⟩
    · have := h.len k hk'
      simp only [stack, note, putAt_getD, addAt_getD, e1, e2, e3, List.length_set, getD_set]
      by_cases g : f.st.toNat = k
      · subst g
        have hh := h.held _ hk'
        have hq : m.held.getD f.st.toNat 0 = caps.getD f.st.toNat 0 := by omega
        simp only [hk', and_self, if_true, List.length_append, List.length_cons, List.length_nil, true_and, Int.mul_add]
        rw [hq] at this
        omega
      · simp only [g, false_and, if_false, List.append_nil, Int.add_zero]; omega
    · have := h.held k hk'
      simp only [stack, note, addAt_getD, e3, List.length_set, getD_set]
      by_cases g : f.st.toNat = k
      · subst g; simp only [hk', and_self, if_true, true_and, List.length_append, List.length_cons, List.length_nil]; omega
      · simp only [g, false_and, if_false, List.append_nil, Int.add_zero]; omega
    · have := h.swept k hk'
      simp only [stack, note, addAt_getD, e2]
      split <;> omega
    · simp only [stack, note, addAt_getD, e2, e3, List.length_set, getD_set] at hp ⊢
      by_cases g : f.st.toNat = k
      · subst g; simp only [hk', and_self, if_true, true_and]; omega
      · simp only [g, false_and, if_false, Int.add_zero] at hp ⊢; exact h.more k hk' hp
    · have := h.left
      simp only [stack, note]
      rw [sum_addAt _ _ _ (by omega)]
      omega
    · simp only [stack, note]; omega
    · intro ho
      have := h.over ho
      simp only [stack, note]; omega
  · rw [e] at hsz ⊢
    exact ⟨hsz, h.len, h.held, h.swept, h.more, h.left, h.left0, fun _ => by have := h.left0; simp only [note]; omega⟩
theorem playF_inv {caps : List Int} {s : Int} (hc : ∀ c ∈ caps, 1 ≤ c) (hs : 0 ≤ s) {l : List Fd} (hl : ∀ f ∈ l, f.st < caps.length) : Inv caps s (playF caps s l) := by
  unfold playF
  have : ∀ (l : List Fd) (m : M), (∀ f ∈ l, f.st < caps.length) → Inv caps s m → Inv caps s (l.foldl (takeF caps) m) := by
    intro l
    induction l with
    | nil => exact fun m _ h => h
    | cons f r ih => exact fun m hl h => ih _ (fun x hx => hl x (List.mem_cons_of_mem _ hx)) (h.take hc (hl f List.mem_cons_self))
  exact this l _ hl (Inv.new hc hs)
/-! ## what comes later lies behind -/
structure Ext (is : List Int) (m m' : M) : Prop where
  st : ∀ k, ∃ t, m'.stackers.getD k [] = m.stackers.getD k [] ++ t ∧ t.Sublist is
  ov : ∃ t, m'.over = m.over ++ t ∧ t.Sublist is
  rj : ∃ t, m'.rej = m.rej ++ t ∧ t.Sublist is
  ev : ∃ t, m'.evs = m.evs ++ t
theorem Ext.refl (m : M) : Ext [] m m := ⟨fun k => ⟨[], by simp, List.Sublist.refl _⟩, ⟨[], by simp, List.Sublist.refl _⟩, ⟨[], by simp, List.Sublist.refl _⟩, ⟨[], by simp⟩⟩
theorem Ext.trans {a b : List Int} {m m' m'' : M} (h : Ext a m m') (h' : Ext b m' m'') : Ext (a ++ b) m m'' := by
  refine ⟨fun k => ?_, ?_, ?_, ?_⟩
  · obtain ⟨t, e, s⟩ := h.st k
    obtain ⟨t', e', s'⟩ := h'.st k
    exact ⟨t ++ t', by rw [e', e, List.append_assoc], s.append s'⟩
  · obtain ⟨t, e, s⟩ := h.ov
    obtain ⟨t', e', s'⟩ := h'.ov
    exact ⟨t ++ t', by rw [e', e, List.append_assoc], s.append s'⟩
  · obtain ⟨t, e, s⟩ := h.rj
    obtain ⟨t', e', s'⟩ := h'.rj
    exact ⟨t ++ t', by rw [e', e, List.append_assoc], s.append s'⟩
  · obtain ⟨t, e⟩ := h.ev
    obtain ⟨t', e'⟩ := h'.ev
    exact ⟨t ++ t', by rw [e', e, List.append_assoc]⟩
theorem Ext.take (caps : List Int) (m : M) (f : Fd) : Ext [f.item] m (takeF caps m f) := by
  have s0 : ∀ x : Int, List.Sublist [] [x] := fun x => List.nil_sublist _
  have hput : ∀ k, ∃ t, (putAt m.stackers f.st.toNat f.item).getD k [] = m.stackers.getD k [] ++ t ∧ t.Sublist [f.item] := fun k => by
    rw [putAt_getD]
    refine ⟨_, rfl, ?_⟩
    split
    · exact List.Sublist.refl _
    · exact s0 _
  rcases take_cases caps m f with ⟨_, e⟩ | ⟨_, _, e⟩ | ⟨_, _, _, e⟩ | ⟨_, _, _, e⟩ <;> rw [e]
  · exact ⟨fun k => ⟨[], by simp [note], s0 _⟩, ⟨[], by simp [note], s0 _⟩, ⟨_, rfl, List.Sublist.refl _⟩, ⟨_, rfl⟩⟩
  · exact ⟨hput, ⟨[], by simp [note, stack], s0 _⟩, ⟨[], by simp [note, stack], s0 _⟩, ⟨_, rfl⟩⟩
  · exact ⟨hput, ⟨[], by simp [note, stack], s0 _⟩, ⟨[], by simp [note, stack], s0 _⟩, ⟨_, rfl⟩⟩
  · exact ⟨fun k => ⟨[], by simp [note], s0 _⟩, ⟨_, rfl, List.Sublist.refl _⟩, ⟨[], by simp [note], s0 _⟩, ⟨_, rfl⟩⟩
theorem Ext.fold (caps : List Int) : ∀ (l : List Fd) (m : M), Ext (l.map Fd.item) m (l.foldl (takeF caps) m)
  | [], m => Ext.refl m
  | f :: r, m => (Ext.take caps m f).trans (Ext.fold caps r (takeF caps m f))
/-- The rest of a play. -/
theorem playF_ext (caps : List Int) (s : Int) (l : List Fd) (i : Nat) : Ext ((l.drop i).map Fd.item) (playF caps s (l.take i)) (playF caps s l) := by
  have : playF caps s l = (l.drop i).foldl (takeF caps) (playF caps s (l.take i)) := by
    unfold playF
    rw [← List.foldl_append, List.take_append_drop]
  rw [this]
  exact Ext.fold caps _ _
/-! ## nothing is lost -/
def allOf (m : M) : List Int := m.stackers.flatten ++ (m.over ++ m.rej)
theorem take_all {caps : List Int} {m : M} {f : Fd} (h : Sz caps.length m) (hf : f.st < caps.length) : (allOf (takeF caps m f)).Perm (allOf m ++ [f.item]) := by
  have e1 := h.st
  have hput : 0 ≤ f.st → ((putAt m.stackers f.st.toNat f.item).flatten ++ (m.over ++ m.rej)).Perm (m.stackers.flatten ++ (m.over ++ m.rej) ++ [f.item]) := fun h0 => by
    refine (List.Perm.append_right _ (putAt_flatten m.stackers f.st.toNat f.item (by omega))).trans ?_
    rw [List.append_assoc, List.append_assoc]
    exact List.Perm.append_left _ List.perm_append_comm
  rcases take_cases caps m f with ⟨_, e⟩ | ⟨h0, _, e⟩ | ⟨h0, _, _, e⟩ | ⟨_, _, _, e⟩ <;> rw [e]
  · simp only [allOf, note, List.append_assoc]
    exact List.Perm.refl _
  · exact hput h0
  · exact hput h0
  · simp only [allOf, note, List.append_assoc]
    exact List.Perm.append_left _ (List.Perm.append_left _ List.perm_append_comm)
theorem playF_all {caps : List Int} {s : Int} {l : List Fd} (hl : ∀ f ∈ l, f.st < caps.length) : (allOf (playF caps s l)).Perm (l.map Fd.item) := by
  have : ∀ n, n ≤ l.length → (allOf (playF caps s (l.take n))).Perm ((l.take n).map Fd.item) := by
    intro n
    induction n with
    | zero =>
      intro _
      have hz : ∀ n : Nat, (List.replicate n ([] : List Int)).flatten = [] := fun n => by simp
      simp [playF, allOf, M.new, hz]
    | succ n ih =>
      intro hn
      have hx := List.getElem?_eq_getElem (show n < l.length by omega)
      rw [List.take_add_one, hx]
      simp only [Option.toList, playF_snoc, List.map_append, List.map_cons, List.map_nil]
      exact (take_all (playF_sz _ _ _) (hl _ (List.getElem_mem _))).trans (List.Perm.append_right _ (ih (by omega)))
  have := this l.length (Nat.le_refl _)
  rwa [List.take_length] at this
end Go.Sx.Srt
namespace Go.Sx.Srt
open Go.Sx.Seq (addAt addAt_len)
def shift (d : Int) (m : M) : M := { m with left := m.left + d }
theorem playF_take {caps : List Int} {s : Int} {l : List Fd} {i : Nat} {f : Fd} (h : l[i]? = some f) : playF caps s (l.take (i + 1)) = takeF caps (playF caps s (l.take i)) f := by
  rw [List.take_add_one, h]
  exact playF_snoc _ _ _ _
/-- A sweep more: the same, until the first that finds no room. -/
theorem shift_take {caps : List Int} {d : Int} (hd : 0 ≤ d) {m : M} {f : Fd} (h : ¬ (0 ≤ f.st ∧ ¬ m.held.getD f.st.toNat 0 < caps.getD f.st.toNat 0 ∧ ¬ 0 < m.left)) : takeF caps (shift d m) f = shift d (takeF caps m f) := by
  unfold takeF
  by_cases h1 : f.st < 0
  · rw [if_pos h1, if_pos h1]; rfl
  · rw [if_neg h1, if_neg h1]
    by_cases h2 : m.held.getD f.st.toNat 0 < caps.getD f.st.toNat 0
    · rw [if_pos h2, if_pos (show (shift d m).held.getD f.st.toNat 0 < caps.getD f.st.toNat 0 from h2)]; rfl
    · have h3 : 0 < m.left := by
        apply Classical.byContradiction
        intro g
        exact h ⟨by omega, h2, g⟩
      rw [if_neg h2, if_pos h3, if_neg (show ¬ (shift d m).held.getD f.st.toNat 0 < caps.getD f.st.toNat 0 from h2), if_pos (show 0 < (shift d m).left by simp only [shift]; omega)]
      simp only [shift, stack, note]
      congr 1
      omega
theorem swept_mono {caps : List Int} {m : M} {f : Fd} (hz : Sz caps.length m) (hf : f.st < caps.length) : m.swept.sum ≤ (takeF caps m f).swept.sum ∧ (takeF caps m f).swept.sum ≤ m.swept.sum + 1 := by
  have := hz.sw
  rcases take_cases caps m f with ⟨_, e⟩ | ⟨h0, _, e⟩ | ⟨h0, _, _, e⟩ | ⟨_, _, _, e⟩ <;> rw [e]
  · simp only [note]; omega
  · simp only [note, stack]; omega
  · simp only [note, stack]
    rw [sum_addAt _ _ _ (by omega)]
    omega
  · simp only [note]; omega
theorem over_two {caps : List Int} {s d : Int} (hc : ∀ c ∈ caps, 1 ≤ c) (hs : 0 ≤ s) (hd : 1 ≤ d) {l : List Fd} (hl : ∀ f ∈ l, f.st < caps.length) : ∀ i, i ≤ l.length →
    ((playF caps s (l.take i)).over = [] ∧ playF caps (s + d) (l.take i) = shift d (playF caps s (l.take i))) ∨ ((playF caps s (l.take i)).over ≠ [] ∧ s + 1 ≤ (playF caps (s + d) (l.take i)).swept.sum)
  | 0, _ => .inl ⟨rfl, rfl⟩
  | i + 1, hi => by
    have ih := over_two hc hs hd hl i (by omega)
    have hx := List.getElem?_eq_getElem (show i < l.length by omega)
    have hf := hl _ (List.getElem_mem (show i < l.length by omega))
    have hpre : ∀ f ∈ l.take i, f.st < caps.length := fun f hf => hl f (List.mem_of_mem_take hf)
    have hinv := playF_inv hc hs hpre
    rw [playF_take hx, playF_take hx]
    generalize l[i] = f at hf
    rcases ih with ⟨h1, h2⟩ | ⟨h1, h2⟩
    · by_cases hov : 0 ≤ f.st ∧ ¬ (playF caps s (l.take i)).held.getD f.st.toNat 0 < caps.getD f.st.toNat 0 ∧ ¬ 0 < (playF caps s (l.take i)).left
      · right
        generalize playF caps s (l.take i) = m at *
        obtain ⟨g1, g2, g3⟩ := hov
        have hl0 := hinv.left0
        have hlf := hinv.left
        rw [h2]
        constructor
        · unfold takeF
          rw [if_neg (by omega), if_neg g2, if_neg g3]
          simp [note]
        · unfold takeF
          rw [if_neg (by omega), if_neg (show ¬ (shift d m).held.getD f.st.toNat 0 < caps.getD f.st.toNat 0 from g2), if_pos (show 0 < (shift d m).left by simp only [shift]; omega)]
          simp only [stack, note, shift]
          rw [sum_addAt _ _ _ (by have := hinv.sw; omega)]
          omega
      · left
        rw [h2, shift_take (by omega) hov]
        refine ⟨?_, rfl⟩
        rcases take_cases caps (playF caps s (l.take i)) f with ⟨_, e⟩ | ⟨_, _, e⟩ | ⟨_, _, _, e⟩ | ⟨k1, k2, k3, _⟩
        · rw [e]; exact h1
        · rw [e]; exact h1
        · rw [e]; exact h1
        · exact absurd ⟨k1, k2, k3⟩ hov
    · right
      refine ⟨fun h0 => h1 ?_, ?_⟩
      · obtain ⟨t, e, _⟩ := (Ext.take caps (playF caps s (l.take i)) f).ov
        rw [e] at h0
        exact (List.append_eq_nil_iff.1 h0).1
      · have := (swept_mono (playF_sz caps (s + d) (l.take i)) hf).1
        omega
theorem swept_le {caps : List Int} {s : Int} {l : List Fd} (hl : ∀ f ∈ l, f.st < caps.length) : ∀ i, i ≤ l.length → (playF caps s (l.take i)).swept.sum ≤ i
  | 0, _ => by
    have : (List.replicate caps.length (0 : Int)).sum = 0 := by
      induction caps.length with
      | zero => rfl
      | succ n ih => simp [List.replicate_succ, ih]
    show (List.replicate caps.length (0 : Int)).sum ≤ ((0 : Nat) : Int)
    omega
  | i + 1, hi => by
    have ih := swept_le (caps := caps) (s := s) hl i (by omega)
    have hx := List.getElem?_eq_getElem (show i < l.length by omega)
    rw [playF_take hx]
    have := (swept_mono (playF_sz caps s (l.take i)) (hl _ (List.getElem_mem (show i < l.length by omega)))).2
    omega
theorem over_enough {caps : List Int} {s : Int} (hc : ∀ c ∈ caps, 1 ≤ c) {l : List Fd} (hl : ∀ f ∈ l, f.st < caps.length) (hs : (l.length : Int) ≤ s) : ∀ i, i ≤ l.length → (playF caps s (l.take i)).over = []
  | 0, _ => rfl
  | i + 1, hi => by
    have ih := over_enough hc hl hs i (by omega)
    have hx := List.getElem?_eq_getElem (show i < l.length by omega)
    have hpre : ∀ f ∈ l.take i, f.st < caps.length := fun f hf => hl f (List.mem_of_mem_take hf)
    have hinv := playF_inv (s := s) hc (by omega) hpre
    have h1 := swept_le (caps := caps) (s := s) hl i (by omega)
    have h2 := hinv.left
    rw [playF_take hx]
    rcases take_cases caps (playF caps s (l.take i)) l[i] with ⟨_, e⟩ | ⟨_, _, e⟩ | ⟨_, _, _, e⟩ | ⟨_, _, k3, _⟩
    · rw [e]; exact ih
    · rw [e]; exact ih
    · rw [e]; exact ih
    · omega
/-- How many sweeps are needed. -/
def needed (caps : List Int) (l : List Fd) : Int := (playF caps l.length l).swept.sum
theorem needed_le {caps : List Int} {l : List Fd} (hc : ∀ c ∈ caps, 1 ≤ c) (hl : ∀ f ∈ l, f.st < caps.length) : 0 ≤ needed caps l ∧ needed caps l ≤ l.length := by
  have h1 := swept_le (caps := caps) (s := l.length) hl l.length (Nat.le_refl _)
  rw [List.take_length] at h1
  refine ⟨?_, h1⟩
  have hinv := playF_inv (s := l.length) hc (by omega) hl
  unfold needed
  have hsw := hinv.swept
  have hn := hinv.sw
  generalize (playF caps l.length l).swept = w at hsw hn
  have : ∀ (w : List Int), (∀ k, k < w.length → 0 ≤ w.getD k 0) → 0 ≤ w.sum := by
    intro w
    induction w with
    | nil => intro _; simp
    | cons a w ih =>
      intro h
      have h0 := h 0 (by simp)
      have := ih (fun k hk => by have := h (k + 1) (by simpa using hk); simpa using this)
      simp only [List.getD_cons_zero] at h0
      simp only [List.sum_cons]
      omega
  exact this w (fun k hk => hsw k (by omega))
theorem over_iff {caps : List Int} {s : Int} {l : List Fd} (hc : ∀ c ∈ caps, 1 ≤ c) (hs : 0 ≤ s) (hl : ∀ f ∈ l, f.st < caps.length) : (playF caps s l).over = [] ↔ needed caps l ≤ s := by
  have hn := needed_le hc hl
  by_cases hS : (l.length : Int) ≤ s
  · have := over_enough hc hl hS l.length (Nat.le_refl _)
    rw [List.take_length] at this
    exact ⟨fun _ => by omega, fun _ => this⟩
  · have h := over_two hc hs (d := l.length - s) (by omega) hl l.length (Nat.le_refl _)
    rw [List.take_length, show s + (l.length - s) = (l.length : Int) from by omega] at h
    have hinv := playF_inv hc hs hl
    have h1 := hinv.left
    have h2 := hinv.left0
    unfold needed
    rcases h with ⟨e1, e2⟩ | ⟨e1, e2⟩
    · rw [e2]
      have e3 : (shift (l.length - s) (playF caps s l)).swept.sum = (playF caps s l).swept.sum := rfl
      constructor
      · intro _; omega
      · intro _; exact e1
    · constructor
      · intro h; exact absurd h e1
      · intro h; omega
/-- With one sweep more nothing more finds no room. -/
theorem over_sub {caps : List Int} {s : Int} {l : List Fd} (hc : ∀ c ∈ caps, 1 ≤ c) (hs : 0 ≤ s) (hl : ∀ f ∈ l, f.st < caps.length) : ((playF caps (s + 1) l).over).Sublist (playF caps s l).over := by
  have key : ∀ i, i ≤ l.length → playF caps (s + 1) (l.take i) = shift 1 (playF caps s (l.take i)) ∨ ((playF caps s (l.take i)).left = 0 ∧ (playF caps (s + 1) (l.take i)).left = 0 ∧ (∀ k, (playF caps (s + 1) (l.take i)).held.getD k 0 ≤ (playF caps s (l.take i)).held.getD k 0) ∧
      ((playF caps (s + 1) (l.take i)).over).Sublist (playF caps s (l.take i)).over) := by
    intro i
    induction i with
    | zero => intro _; exact .inl rfl
    | succ i ih =>
      intro hi
      have ih := ih (by omega)
      have hx := List.getElem?_eq_getElem (show i < l.length by omega)
      have hf := hl _ (List.getElem_mem (show i < l.length by omega))
      have hpre : ∀ f ∈ l.take i, f.st < caps.length := fun f hf => hl f (List.mem_of_mem_take hf)
      have hinv := playF_inv hc hs hpre
      have hinv' := playF_inv (s := s + 1) hc (by omega) hpre
      rw [playF_take hx, playF_take hx]
      generalize l[i] = f at hf
      generalize playF caps s (l.take i) = m at *
      generalize playF caps (s + 1) (l.take i) = m' at *
      have z1 := hinv.hd
      have z2 := hinv'.hd
      rcases ih with rfl | ⟨q1, q2, q3, q4⟩
      · by_cases hov : 0 ≤ f.st ∧ ¬ m.held.getD f.st.toNat 0 < caps.getD f.st.toNat 0 ∧ ¬ 0 < m.left
        · right
          obtain ⟨g1, g2, g3⟩ := hov
          have hl0 := hinv.left0
          have hcap : 1 ≤ caps.getD f.st.toNat 0 := by
            have := hc _ (List.getElem_mem (show f.st.toNat < caps.length by omega))
            simpa [show f.st.toNat < caps.length by omega] using this
          have e1 : takeF caps m f = note { m with over := m.over ++ [f.item] } [⟨3, f.item, f.st⟩] := by
            unfold takeF; rw [if_neg (by omega), if_neg g2, if_neg g3]
          have e2 : takeF caps (shift 1 m) f = stack (note { shift 1 m with left := (shift 1 m).left - 1, held := (shift 1 m).held.set f.st.toNat 0, swept := addAt (shift 1 m).swept f.st.toNat 1 } [⟨2, f.item, f.st⟩, ⟨1, f.item, f.st⟩]) f := by
            unfold takeF
            rw [if_neg (by omega), if_neg (show ¬ (shift 1 m).held.getD f.st.toNat 0 < caps.getD f.st.toNat 0 from g2), if_pos (show 0 < (shift 1 m).left by simp only [shift]; omega)]
          rw [e1, e2]
          refine ⟨by simp only [note]; omega, by simp only [stack, note, shift]; omega, fun k => ?_, ?_⟩
          · simp only [stack, note, shift, addAt_getD, getD_set, List.length_set]
            by_cases e : f.st.toNat = k
            · subst e
              simp only [z1, show f.st.toNat < caps.length from by omega, and_self, if_true]
              omega
            · simp only [e, false_and, if_false]; omega
          · simp only [stack, note, shift]
            exact List.sublist_append_left _ _
        · left
          exact shift_take (by omega) hov
      · right
        rcases take_cases caps m f with ⟨h1, e⟩ | ⟨h0, h1, e⟩ | ⟨h0, h1, h2, e⟩ | ⟨h0, h1, h2, e⟩
        · have e' : takeF caps m' f = note { m' with rej := m'.rej ++ [f.item] } [⟨4, f.item, -1⟩] := by unfold takeF; rw [if_pos h1]
          rw [e, e']
          exact ⟨q1, q2, q3, q4⟩
        · have h1' : m'.held.getD f.st.toNat 0 < caps.getD f.st.toNat 0 := by have := q3 f.st.toNat; omega
          have e' : takeF caps m' f = stack (note m' [⟨1, f.item, f.st⟩]) f := by unfold takeF; rw [if_neg (by omega), if_pos h1']
          rw [e, e']
          refine ⟨q1, q2, fun k => ?_, q4⟩
          have := q3 k
          simp only [stack, note, addAt_getD, z1, z2]
          omega
        · omega
        · rw [e]
          by_cases h1' : m'.held.getD f.st.toNat 0 < caps.getD f.st.toNat 0
          · have e' : takeF caps m' f = stack (note m' [⟨1, f.item, f.st⟩]) f := by unfold takeF; rw [if_neg (by omega), if_pos h1']
            rw [e']
            refine ⟨q1, q2, fun k => ?_, ?_⟩
            · have := q3 k
              simp only [stack, note, addAt_getD, z1, z2]
              by_cases g : f.st.toNat = k
              · subst g
                simp only [show f.st.toNat < caps.length from by omega, and_self, if_true]
                omega
              · simp only [g, false_and, if_false]; omega
            · simp only [stack, note]
              exact q4.trans (List.sublist_append_left _ _)
          · have e' : takeF caps m' f = note { m' with over := m'.over ++ [f.item] } [⟨3, f.item, f.st⟩] := by unfold takeF; rw [if_neg (by omega), if_neg h1', if_neg (by omega)]
            rw [e']
            refine ⟨q1, q2, q3, ?_⟩
            simp only [note]
            exact q4.append (List.Sublist.refl _)
  have h := key l.length (Nat.le_refl _)
  rw [List.take_length] at h
  rcases h with h | h
  · rw [h]; exact List.Sublist.refl _
  · exact h.2.2.2
/-! ## events -/
theorem prefix_at {α : Type} {a b t : List α} {i : Nat} {x : α} (h : b = a ++ t) (hx : a[i]? = some x) : b[i]? = some x := by
  subst h
  rw [List.getElem?_append_left (List.getElem?_eq_some_iff.1 hx).1]
  exact hx
/-- The events of a feed, in the whole play. -/
theorem evs_at {caps : List Int} {s : Int} {l : List Fd} {i : Nat} {f : Fd} (hf : l[i]? = some f) {t : Nat} {e : Ev} {es : List Ev} (he : (takeF caps (playF caps s (l.take i)) f).evs = (playF caps s (l.take i)).evs ++ es) (ht : es[t]? = some e) :
    (playF caps s l).evs[(playF caps s (l.take i)).evs.length + t]? = some e := by
  obtain ⟨u, hu⟩ := (playF_ext caps s l (i + 1)).ev
  rw [playF_take hf] at hu
  refine prefix_at hu ?_
  rw [he, List.getElem?_append_right (by omega)]
  simpa using ht
theorem rej_at {caps : List Int} {s : Int} {l : List Fd} {i : Nat} {f : Fd} (hf : l[i]? = some f) (he : (takeF caps (playF caps s (l.take i)) f).rej = (playF caps s (l.take i)).rej ++ [f.item]) :
    (playF caps s l).rej[(playF caps s (l.take i)).rej.length]? = some f.item := by
  obtain ⟨u, hu, _⟩ := (playF_ext caps s l (i + 1)).rj
  rw [playF_take hf] at hu
  refine prefix_at hu ?_
  rw [he]; simp
theorem over_at {caps : List Int} {s : Int} {l : List Fd} {i : Nat} {f : Fd} (hf : l[i]? = some f) (he : (takeF caps (playF caps s (l.take i)) f).over = (playF caps s (l.take i)).over ++ [f.item]) :
    (playF caps s l).over[(playF caps s (l.take i)).over.length]? = some f.item := by
  obtain ⟨u, hu, _⟩ := (playF_ext caps s l (i + 1)).ov
  rw [playF_take hf] at hu
  refine prefix_at hu ?_
  rw [he]; simp
theorem st_at {caps : List Int} {s : Int} {l : List Fd} {i k : Nat} {f : Fd} (hf : l[i]? = some f) (he : (takeF caps (playF caps s (l.take i)) f).stackers.getD k [] = (playF caps s (l.take i)).stackers.getD k [] ++ [f.item]) :
    ((playF caps s l).stackers.getD k [])[((playF caps s (l.take i)).stackers.getD k []).length]? = some f.item := by
  obtain ⟨u, hu, _⟩ := (playF_ext caps s l (i + 1)).st k
  rw [playF_take hf] at hu
  refine prefix_at hu ?_
  rw [he]; simp
/-- An item that is not stacked here does not lie where the next of the stacker lies. -/
theorem st_not {caps : List Int} {s : Int} {l : List Fd} {i k : Nat} {f : Fd} (hnd : (l.map Fd.item).Nodup) (hf : l[i]? = some f) (he : (takeF caps (playF caps s (l.take i)) f).stackers.getD k [] = (playF caps s (l.take i)).stackers.getD k []) :
    ((playF caps s l).stackers.getD k [])[((playF caps s (l.take i)).stackers.getD k []).length]? ≠ some f.item := by
  obtain ⟨u, hu, hs⟩ := (playF_ext caps s l (i + 1)).st k
  rw [playF_take hf, he] at hu
  rw [hu]
  intro h
  rw [List.getElem?_append_right (Nat.le_refl _), Nat.sub_self] at h
  have hm : f.item ∈ u := List.mem_of_getElem? h
  have hm2 := hs.subset hm
  obtain ⟨g, hg, e⟩ := List.mem_map.1 hm2
  obtain ⟨j, hj⟩ := List.getElem?_of_mem hg
  rw [List.getElem?_drop] at hj
  have n1 : (l.map Fd.item)[i]? = some f.item := by rw [List.getElem?_map, hf]; rfl
  have n2 : (l.map Fd.item)[i + 1 + j]? = some f.item := by rw [List.getElem?_map, hj]; simp [e]
  have := (List.getElem?_inj (List.getElem?_eq_some_iff.1 n1).1 hnd).1 (n1.trans n2.symm)
  omega
end Go.Sx.Srt
namespace Go.Sx.Srt
open Go.Sx.Seq (addAt addAt_len)
/-- What belongs to a stacker, in the order of feeding. -/
def goes (l : List Fd) (k : Nat) : List Int := (l.filter fun f => f.st = (k : Int)).map Fd.item
def refused (l : List Fd) : List Int := (l.filter fun f => f.st < 0).map Fd.item
theorem goes_snoc (l : List Fd) (f : Fd) (k : Nat) : goes (l ++ [f]) k = goes l k ++ if f.st = (k : Int) then [f.item] else [] := by
  unfold goes
  rw [List.filter_append, List.map_append]
  by_cases h : f.st = (k : Int) <;> simp [h]
theorem refused_snoc (l : List Fd) (f : Fd) : refused (l ++ [f]) = refused l ++ if f.st < 0 then [f.item] else [] := by
  unfold refused
  rw [List.filter_append, List.map_append]
  by_cases h : f.st < 0 <;> simp [h]
theorem list_snoc {α : Type} {P : List α → Prop} (h0 : P []) (h1 : ∀ l x, P l → P (l ++ [x])) : ∀ l, P l := by
  intro l
  have : ∀ n, n ≤ l.length → P (l.take n) := by
    intro n
    induction n with
    | zero => intro _; simpa using h0
    | succ n ih =>
      intro hn
      have hx := List.getElem?_eq_getElem (show n < l.length by omega)
      rw [List.take_add_one, hx]
      exact h1 _ _ (ih (by omega))
  have := this l.length (Nat.le_refl _)
  rwa [List.take_length] at this
theorem playF_goes {caps : List Int} {s : Int} : ∀ l : List Fd, (∀ f ∈ l, f.st < caps.length) → ∀ k, ((playF caps s l).stackers.getD k []).Sublist (goes l k) := by
  refine list_snoc ?_ ?_
  · intro _ k
    simp only [playF_nil, M.new]
    have : (List.replicate caps.length ([] : List Int)).getD k [] = [] := by
      by_cases h : k < caps.length <;> simp [h]
    rw [this]; exact List.nil_sublist _
  · intro l f ih hl k
    have ih := ih (fun x hx => hl x (List.mem_append_left _ hx)) k
    have hf := hl f (by simp)
    have hz := (playF_sz caps s l).st
    rw [playF_snoc, goes_snoc]
    have hput : 0 ≤ f.st → ((putAt (playF caps s l).stackers f.st.toNat f.item).getD k []).Sublist (goes l k ++ if f.st = (k : Int) then [f.item] else []) := fun h0 => by
      rw [putAt_getD, hz]
      refine ih.append ?_
      by_cases e : f.st = (k : Int)
      · rw [if_pos (by omega), if_pos e]; exact List.Sublist.refl _
      · rw [if_neg (by omega), if_neg e]; exact List.Sublist.refl _
    have hsame : ((playF caps s l).stackers.getD k []).Sublist (goes l k ++ if f.st = (k : Int) then [f.item] else []) := ih.trans (List.sublist_append_left _ _)
    rcases take_cases caps (playF caps s l) f with ⟨_, e⟩ | ⟨h0, _, e⟩ | ⟨h0, _, _, e⟩ | ⟨_, _, _, e⟩ <;> rw [e]
    · exact hsame
    · exact hput h0
    · exact hput h0
    · exact hsame
theorem playF_refused {caps : List Int} {s : Int} : ∀ l : List Fd, (playF caps s l).rej = refused l := by
  refine list_snoc ?_ ?_
  · rfl
  · intro l f ih
    rw [playF_snoc, refused_snoc]
    rcases take_cases caps (playF caps s l) f with ⟨h, e⟩ | ⟨h, _, e⟩ | ⟨h, _, _, e⟩ | ⟨h, _, _, e⟩ <;> rw [e]
    · simp only [note, ih, if_pos h]
    · simp only [note, stack, ih, if_neg (show ¬ f.st < 0 by omega), List.append_nil]
    · simp only [note, stack, ih, if_neg (show ¬ f.st < 0 by omega), List.append_nil]
    · simp only [note, ih, if_neg (show ¬ f.st < 0 by omega), List.append_nil]
/-- Where there is room for all that belongs to a stacker, no sweep is made. -/
theorem playF_room {caps : List Int} {s : Int} : ∀ l : List Fd, (∀ f ∈ l, f.st < caps.length) → (∀ k, k < caps.length → ((goes l k).length : Int) ≤ caps.getD k 0) →
    (playF caps s l).over = [] ∧ (playF caps s l).swept = List.replicate caps.length 0 ∧ (playF caps s l).left = s ∧ ∀ k, k < caps.length → (playF caps s l).stackers.getD k [] = goes l k ∧ (playF caps s l).held.getD k 0 = (goes l k).length := by
  refine list_snoc ?_ ?_
  · intro _ _
    refine ⟨rfl, rfl, rfl, fun k hk => ?_⟩
    simp [playF_nil, M.new, hk, goes]
  · intro l f ih hl hc
    have hf := hl f (by simp)
    obtain ⟨i1, i2, i3, i4⟩ := ih (fun x hx => hl x (List.mem_append_left _ hx)) (fun k hk => by
      have := hc k hk
      rw [goes_snoc, List.length_append] at this
      omega)
    have hz := playF_sz caps s l
    have hz1 := hz.st
    have hz3 := hz.hd
    rw [playF_snoc]
    rcases take_cases caps (playF caps s l) f with ⟨h, e⟩ | ⟨h, hh, e⟩ | ⟨h, hh, _, e⟩ | ⟨h, hh, _, e⟩
    · rw [e]
      refine ⟨i1, i2, i3, fun k hk => ?_⟩
      rw [goes_snoc, if_neg (by omega), List.append_nil]
      exact i4 k hk
    · rw [e]
      refine ⟨i1, i2, i3, fun k hk => ?_⟩
      obtain ⟨j1, j2⟩ := i4 k hk
      simp only [stack, note, putAt_getD, addAt_getD, hz1, hz3, goes_snoc, j1, j2]
      by_cases e : f.st = (k : Int)
      · rw [if_pos (by omega), if_pos e, if_pos (by omega)]
        simp
      · rw [if_neg (by omega), if_neg e, if_neg (by omega)]
        simp
    all_goals
      exfalso
      have hk : f.st.toNat < caps.length := by omega
      have h1 := hc _ hk
      have h2 := (i4 _ hk).2
      rw [goes_snoc, if_pos (by omega), List.length_append] at h1
      simp only [List.length_cons, List.length_nil] at h1
      omega
theorem getD_list {α : Type} {l : List (List α)} {n : Nat} (h : l.length = n) : l = (List.range n).map fun k => l.getD k [] := by
  subst h
  apply List.ext_getElem?
  intro i
  by_cases hi : i < l.length
  · simp [hi]
  · rw [List.getElem?_eq_none (by omega), List.getElem?_eq_none (by simp; omega)]
/-- Lists, one behind the other. -/
theorem flatten_pairwise {α : Type} (key : α → Nat) (S : α → α → Prop) (g : Nat → List α) : ∀ n, (∀ k, k < n → (∀ x ∈ g k, key x = k) ∧ (g k).Pairwise S) → (((List.range n).map g).flatten).Pairwise fun a b => key a < key b ∨ (key a = key b ∧ S a b)
  | 0, _ => by simp
  | n + 1, h => by
    rw [List.range_succ, List.map_append, List.flatten_append, List.map_singleton, List.flatten_singleton, List.pairwise_append]
    refine ⟨flatten_pairwise key S g n (fun k hk => h k (by omega)), ?_, ?_⟩
    · obtain ⟨h1, h2⟩ := h n (by omega)
      refine h2.imp_of_mem ?_
      intro a b ha hb hs
      exact .inr ⟨by rw [h1 a ha, h1 b hb], hs⟩
    · intro a ha b hb
      left
      obtain ⟨l, hl, hal⟩ := List.mem_flatten.1 ha
      obtain ⟨k, hk, rfl⟩ := List.mem_map.1 hl
      have hk := List.mem_range.1 hk
      rw [(h k (by omega)).1 a hal, (h n (by omega)).1 b hb]
      exact hk
end Go.Sx.Srt
namespace Go.Sx.Srt
open Go.Sx.Seq (addAt addAt_len findF lexLt)
structure It where
  id : Int
  stop : Int
  first : Bool
  second : Bool
deriving DecidableEq
def itF (items : List It) (id : Int) : Option It := items.find? fun x => x.id == id
/-- Where an item belongs in the first pass. -/
def st1 (p : Seq.Plan) (x : It) : Int := match findF p.seats x.stop with
  | some s => if x.first = true then s.first else -1
  | none => -1
def st2 (p : Seq.Plan) (items : List It) (id : Int) : Int := match itF items id with
  | some x => if x.second = true then (match findF p.seats x.stop with
    | some s => s.second
    | none => 0) else -1
  | none => -1
def feeds1 (p : Seq.Plan) (items : List It) : List Fd := items.map fun x => ⟨x.id, st1 p x⟩
def pass1 (p : Seq.Plan) (s : Int) (items : List It) : M := playF p.caps s (feeds1 p items)
def feeds2 (p : Seq.Plan) (items : List It) (l : List Int) : List Fd := l.map fun id => ⟨id, st2 p items id⟩
def pass2 (p : Seq.Plan) (s : Int) (items : List It) : M := playF p.caps s (feeds2 p items (leaveF (pass1 p s items)))
def orderF (p : Seq.Plan) (s : Int) (items : List It) : List Int := leaveF (pass2 p s items)
/-- Whether some item is not valid, or has the ID of an earlier one. -/
def badI : List Int → List It → Bool
  | _, [] => false
  | met, x :: r => if (1 ≤ x.id ∧ x.id ≤ 999999) ∧ x.id ∉ met then badI (met ++ [x.id]) r else true
def twoE (p : Seq.Plan) (s : Int) (items : List It) : Int :=
  if (Seq.checkF p).2 ≠ 0 then (Seq.checkF p).2 else
  if s < 0 ∨ 1000 < s then 2 else
  if 2000 < items.length then 5 else
  if badI [] items = true then 292 else 0
/-- A plan that Check accepts, as far as it is used. -/
structure POk (p : Seq.Plan) : Prop where
  mach : Seq.machineOk p.caps
  nd : (p.seats.map Seq.Seat.stop).Nodup
  range : ∀ s ∈ p.seats, (0 ≤ s.first ∧ s.first < p.caps.length) ∧ (0 ≤ s.second ∧ s.second < p.caps.length)
  pw : p.seats.Pairwise lexLt
theorem Good.pok {l : List Seq.Stop} {caps : List Int} {p : Seq.Plan} (h : Seq.Good l caps p) (hm : Seq.machineOk caps) (hr : Seq.routeFrom [] l) : POk p :=
  ⟨by rw [h.caps_eq]; exact hm, h.nodup hr, by rw [h.caps_eq]; exact h.range, h.pw⟩
theorem findF_mem {l : List Seq.Seat} {x : Int} {s : Seq.Seat} (h : findF l x = some s) : s ∈ l ∧ s.stop = x := by
  unfold findF at h
  exact ⟨List.mem_of_find?_eq_some h, by simpa using List.find?_some h⟩
theorem itF_of {items : List It} (hnd : (items.map It.id).Nodup) {i : Nat} {x : It} (h : items[i]? = some x) : itF items x.id = some x := by
  unfold itF
  induction items generalizing i with
  | nil => simp at h
  | cons y r ih =>
    simp only [List.map_cons, List.nodup_cons] at hnd
    cases i with
    | zero =>
      simp at h; subst h
      simp
    | succ i =>
      simp only [List.getElem?_cons_succ] at h
      have hne : y.id ≠ x.id := fun e => hnd.1 (List.mem_map.2 ⟨x, List.mem_of_getElem? h, e.symm⟩)
      rw [List.find?_cons_of_neg (by simpa using hne)]
      exact ih hnd.2 h
theorem itF_mem {items : List It} {id : Int} {x : It} (h : itF items id = some x) : x ∈ items ∧ x.id = id := by
  unfold itF at h
  exact ⟨List.mem_of_find?_eq_some h, by simpa using List.find?_some h⟩
theorem itF_find {items : List It} (hnd : (items.map It.id).Nodup) {x : It} (h : x ∈ items) : itF items x.id = some x := by
  obtain ⟨i, hi⟩ := List.getElem?_of_mem h
  exact itF_of hnd hi
theorem st1_lt {p : Seq.Plan} (h : POk p) (x : It) : -1 ≤ st1 p x ∧ st1 p x < p.caps.length := by
  have hm := h.mach.1
  unfold st1
  cases hf : findF p.seats x.stop with
  | none => simp only []; omega
  | some s =>
    have := h.range s (findF_mem hf).1
    simp only []
    split <;> omega
theorem st2_lt {p : Seq.Plan} (h : POk p) (items : List It) (id : Int) : -1 ≤ st2 p items id ∧ st2 p items id < p.caps.length := by
  have hm := h.mach.1
  unfold st2
  cases itF items id with
  | none => simp only []; omega
  | some x =>
    simp only []
    split
    · cases hf : findF p.seats x.stop with
      | none => simp only []; omega
      | some s =>
        have := h.range s (findF_mem hf).1
        simp only []
        omega
    · omega
theorem feeds1_lt {p : Seq.Plan} (h : POk p) (items : List It) : ∀ f ∈ feeds1 p items, f.st < p.caps.length := fun f hf => by
  obtain ⟨x, _, rfl⟩ := List.mem_map.1 hf
  exact (st1_lt h x).2
theorem feeds2_lt {p : Seq.Plan} (h : POk p) (items : List It) (l : List Int) : ∀ f ∈ feeds2 p items l, f.st < p.caps.length := fun f hf => by
  obtain ⟨x, _, rfl⟩ := List.mem_map.1 hf
  exact (st2_lt h items x).2
theorem feeds1_items (p : Seq.Plan) (items : List It) : (feeds1 p items).map Fd.item = items.map It.id := by simp [feeds1, Function.comp_def]
theorem feeds2_items (p : Seq.Plan) (items : List It) (l : List Int) : (feeds2 p items l).map Fd.item = l := by simp [feeds2, Function.comp_def]
theorem two_perm1 {p : Seq.Plan} (h : POk p) (s : Int) (items : List It) : (leaveF (pass1 p s items) ++ ((pass1 p s items).over ++ (pass1 p s items).rej)).Perm (items.map It.id) := by
  have := playF_all (s := s) (feeds1_lt h items)
  rw [feeds1_items] at this
  exact this
theorem two_perm2 {p : Seq.Plan} (h : POk p) (s : Int) (items : List It) : (orderF p s items ++ ((pass2 p s items).over ++ (pass2 p s items).rej)).Perm (leaveF (pass1 p s items)) := by
  have := playF_all (s := s) (feeds2_lt h items (leaveF (pass1 p s items)))
  rw [feeds2_items] at this
  exact this
theorem goes_sub (l : List Fd) (k : Nat) : (goes l k).Sublist (l.map Fd.item) := List.Sublist.map _ List.filter_sublist
theorem leaveF_eq (caps : List Int) (s : Int) (l : List Fd) : leaveF (playF caps s l) = ((List.range caps.length).map fun k => (playF caps s l).stackers.getD k []).flatten := by
  unfold leaveF
  conv => lhs; rw [getD_list (playF_sz caps s l).st]
/-- What is left after the first pass has a stacker there. -/
theorem leave1_mem {p : Seq.Plan} (h : POk p) (s : Int) {items : List It} (hnd : (items.map It.id).Nodup) {id : Int} (hid : id ∈ leaveF (pass1 p s items)) : ∃ x t, x ∈ items ∧ x.id = id ∧ itF items id = some x ∧ x.first = true ∧ findF p.seats x.stop = some t := by
  unfold pass1 at hid
  rw [leaveF_eq] at hid
  obtain ⟨l, hl, hm⟩ := List.mem_flatten.1 hid
  obtain ⟨k, hk, rfl⟩ := List.mem_map.1 hl
  have hg := (playF_goes _ (feeds1_lt h items) k).subset hm
  unfold goes at hg
  obtain ⟨f, hf, rfl⟩ := List.mem_map.1 hg
  obtain ⟨hf1, hf2⟩ := List.mem_filter.1 hf
  obtain ⟨x, hx, rfl⟩ := List.mem_map.1 hf1
  simp only [decide_eq_true_eq] at hf2
  refine ⟨x, ?_⟩
  unfold st1 at hf2
  cases hs : findF p.seats x.stop with
  | none => rw [hs] at hf2; simp only [] at hf2; omega
  | some t =>
    rw [hs] at hf2
    simp only [] at hf2
    split at hf2
    · rename_i hfi
      exact ⟨t, hx, rfl, itF_find hnd hx, hfi, rfl⟩
    · omega
def k1 (p : Seq.Plan) (items : List It) (id : Int) : Nat := match itF items id with
  | some x => (st1 p x).toNat
  | none => 0
def k2 (p : Seq.Plan) (items : List It) (id : Int) : Nat := (st2 p items id).toNat
def ix (items : List It) (id : Int) : Nat := items.findIdx fun x => x.id == id
theorem ix_of {items : List It} (hnd : (items.map It.id).Nodup) {i : Nat} {x : It} (h : items[i]? = some x) : ix items x.id = i := by
  unfold ix
  induction items generalizing i with
  | nil => simp at h
  | cons y r ih =>
    simp only [List.map_cons, List.nodup_cons] at hnd
    cases i with
    | zero =>
      simp at h; subst h
      simp [List.findIdx_cons]
    | succ i =>
      simp only [List.getElem?_cons_succ] at h
      have hne : y.id ≠ x.id := fun e => hnd.1 (List.mem_map.2 ⟨x, List.mem_of_getElem? h, e.symm⟩)
      have hb : (y.id == x.id) = false := by simpa using hne
      rw [List.findIdx_cons, ih hnd.2 h, hb]
      rfl
theorem ix_pw {items : List It} (hnd : (items.map It.id).Nodup) : (items.map It.id).Pairwise fun a b => ix items a < ix items b := by
  rw [List.pairwise_iff_getElem]
  intro i j hi hj hij
  have hi' : i < items.length := by simpa using hi
  have hj' : j < items.length := by simpa using hj
  simp only [List.getElem_map]
  rw [ix_of hnd (List.getElem?_eq_getElem hi'), ix_of hnd (List.getElem?_eq_getElem hj')]
  exact hij
theorem leave1_pw {p : Seq.Plan} (h : POk p) (s : Int) {items : List It} (hnd : (items.map It.id).Nodup) : (leaveF (pass1 p s items)).Pairwise fun a b => k1 p items a < k1 p items b ∨ (k1 p items a = k1 p items b ∧ ix items a < ix items b) := by
  unfold pass1
  rw [leaveF_eq]
  refine flatten_pairwise (k1 p items) (fun a b => ix items a < ix items b) _ _ fun k hk => ?_
  have hg := playF_goes (s := s) _ (feeds1_lt h items) k
  refine ⟨fun id hid => ?_, ?_⟩
  · have hg := hg.subset hid
    unfold goes at hg
    obtain ⟨f, hf, rfl⟩ := List.mem_map.1 hg
    obtain ⟨hf1, hf2⟩ := List.mem_filter.1 hf
    obtain ⟨x, hx, rfl⟩ := List.mem_map.1 hf1
    simp only [decide_eq_true_eq] at hf2
    unfold k1
    rw [itF_find hnd hx]
    simp only []
    omega
  · have hsub := hg.trans (goes_sub _ k)
    rw [feeds1_items] at hsub
    exact (ix_pw hnd).sublist hsub
theorem order_mem {p : Seq.Plan} (h : POk p) (s : Int) {items : List It} (hnd : (items.map It.id).Nodup) {id : Int} (hid : id ∈ orderF p s items) : ∃ x t, x ∈ items ∧ x.id = id ∧ itF items id = some x ∧ x.first = true ∧ x.second = true ∧ findF p.seats x.stop = some t ∧ k1 p items id = t.first.toNat ∧ k2 p items id = t.second.toNat := by
  have h0 := hid
  unfold orderF pass2 at hid
  rw [leaveF_eq] at hid
  obtain ⟨l, hl, hm⟩ := List.mem_flatten.1 hid
  obtain ⟨k, hk, rfl⟩ := List.mem_map.1 hl
  have hg := (playF_goes _ (feeds2_lt h items _) k).subset hm
  unfold goes at hg
  obtain ⟨f, hf, rfl⟩ := List.mem_map.1 hg
  obtain ⟨hf1, hf2⟩ := List.mem_filter.1 hf
  obtain ⟨id', hx, rfl⟩ := List.mem_map.1 hf1
  simp only [decide_eq_true_eq] at hf2
  obtain ⟨x, t, g1, g2, g3, g4, g5⟩ := leave1_mem h s hnd hx
  refine ⟨x, t, g1, g2, g3, g4, ?_, g5, ?_, ?_⟩
  · unfold st2 at hf2
    rw [g3] at hf2
    simp only [] at hf2
    split at hf2
    · assumption
    · omega
  · unfold k1 st1
    simp only [g3, g5, g4, if_true]
  · unfold st2 at hf2
    rw [g3] at hf2
    simp only [] at hf2
    split at hf2
    · rename_i hs2
      unfold k2 st2
      simp only [g3, g5, hs2, if_true]
    · omega
theorem order_pw {p : Seq.Plan} (h : POk p) (s : Int) {items : List It} (hnd : (items.map It.id).Nodup) : (orderF p s items).Pairwise fun a b => k2 p items a < k2 p items b ∨ (k2 p items a = k2 p items b ∧ (k1 p items a < k1 p items b ∨ (k1 p items a = k1 p items b ∧ ix items a < ix items b))) := by
  unfold orderF pass2
  rw [leaveF_eq]
  refine flatten_pairwise (k2 p items) (fun a b => k1 p items a < k1 p items b ∨ (k1 p items a = k1 p items b ∧ ix items a < ix items b)) _ _ fun k hk => ?_
  have hg := playF_goes (s := s) _ (feeds2_lt h items (leaveF (pass1 p s items))) k
  refine ⟨fun id hid => ?_, ?_⟩
  · have hg := hg.subset hid
    unfold goes at hg
    obtain ⟨f, hf, rfl⟩ := List.mem_map.1 hg
    obtain ⟨hf1, hf2⟩ := List.mem_filter.1 hf
    obtain ⟨id', hx, rfl⟩ := List.mem_map.1 hf1
    simp only [decide_eq_true_eq] at hf2
    show (st2 p items id').toNat = k
    omega
  · have hsub := hg.trans (goes_sub _ k)
    rw [feeds2_items] at hsub
    exact (leave1_pw h s hnd).sublist hsub
/-- Seats along the route have growing places. -/
theorem seat_lt {p : Seq.Plan} (h : POk p) {i j : Nat} {a b : Seq.Seat} (ha : p.seats[i]? = some a) (hb : p.seats[j]? = some b) (hl : lexLt a b) : i < j := by
  rcases Nat.lt_trichotomy i j with g | g | g
  · exact g
  · subst g
    rw [ha] at hb; cases hb
    unfold lexLt at hl; omega
  · exfalso
    have hpw := List.pairwise_iff_getElem.1 h.pw
    obtain ⟨hi, rfl⟩ := List.getElem?_eq_some_iff.1 ha
    obtain ⟨hj, rfl⟩ := List.getElem?_eq_some_iff.1 hb
    have := hpw j i hj hi g
    unfold lexLt at hl this; omega
/-- The index of a stop's seat. -/
def seatIx (p : Seq.Plan) (stop : Int) : Nat := p.seats.findIdx fun s => s.stop == stop
theorem seatIx_get {p : Seq.Plan} {stop : Int} {t : Seq.Seat} (h : findF p.seats stop = some t) : p.seats[seatIx p stop]? = some t := by
  unfold findF at h
  unfold seatIx
  generalize p.seats = l at h
  induction l with
  | nil => simp at h
  | cons y r ih =>
    rw [List.find?_cons] at h
    rw [List.findIdx_cons]
    split at h
    · rename_i hy; cases h; simp [hy]
    · rename_i hy; simp [hy]; exact ih h
/-- THE ORDER: along the route, those of a stop in the order of feeding. -/
theorem order_lex {p : Seq.Plan} (h : POk p) (s : Int) {items : List It} (hnd : (items.map It.id).Nodup) {i : Nat} {a b : Int} (ha : (orderF p s items)[i]? = some a) (hb : (orderF p s items)[i + 1]? = some b) {x y : It} (hx : itF items a = some x) (hy : itF items b = some y) :
    seatIx p x.stop < seatIx p y.stop ∨ (seatIx p x.stop = seatIx p y.stop ∧ ix items a < ix items b) := by
  obtain ⟨x', t, _, _, e1, _, _, g1, g2, g3⟩ := order_mem h s hnd (List.mem_of_getElem? ha)
  obtain ⟨y', u, _, _, e2, _, _, g4, g5, g6⟩ := order_mem h s hnd (List.mem_of_getElem? hb)
  rw [hx] at e1; cases e1
  rw [hy] at e2; cases e2
  have hpw := List.pairwise_iff_getElem.1 (order_pw h s hnd)
  obtain ⟨hi, e1⟩ := List.getElem?_eq_some_iff.1 ha
  obtain ⟨hj, e2⟩ := List.getElem?_eq_some_iff.1 hb
  have := hpw i (i + 1) hi hj (by omega)
  rw [e1, e2, g2, g3, g5, g6] at this
  have r1 := h.range t (findF_mem g1).1
  have r2 := h.range u (findF_mem g4).1
  have q1 := seatIx_get g1
  have q2 := seatIx_get g4
  by_cases he : t = u
  · right
    subst he
    have : seatIx p x.stop = seatIx p y.stop := by
      rw [← (findF_mem g1).2, ← (findF_mem g4).2]
    omega
  · left
    have hlt : lexLt t u ∨ (t.first = u.first ∧ t.second = u.second) := by
      unfold lexLt
      omega
    rcases hlt with hlt | ⟨e3, e4⟩
    · exact seat_lt h q1 q2 hlt
    · exfalso
      rcases Nat.lt_trichotomy (seatIx p x.stop) (seatIx p y.stop) with g | g | g
      · have := List.pairwise_iff_getElem.1 h.pw _ _ (List.getElem?_eq_some_iff.1 q1).1 (List.getElem?_eq_some_iff.1 q2).1 g
        rw [(List.getElem?_eq_some_iff.1 q1).2, (List.getElem?_eq_some_iff.1 q2).2] at this
        unfold lexLt at this; omega
      · rw [g, q2] at q1; cases q1; exact he rfl
      · have := List.pairwise_iff_getElem.1 h.pw _ _ (List.getElem?_eq_some_iff.1 q2).1 (List.getElem?_eq_some_iff.1 q1).1 g
        rw [(List.getElem?_eq_some_iff.1 q1).2, (List.getElem?_eq_some_iff.1 q2).2] at this
        unfold lexLt at this; omega
end Go.Sx.Srt
namespace Go.Sx.Srt
open Go.Sx.Seq (addAt addAt_len findF lexLt loadOf)
/-- Loads within the capacities, items within the volumes. -/
structure Room (p : Seq.Plan) (items : List It) : Prop where
  vol : ∀ s ∈ p.seats, ((items.map It.stop).count s.stop : Int) ≤ s.vol ∧ 0 ≤ s.vol
  l1 : ∀ k, k < p.caps.length → loadOf Seq.Seat.first k p.seats ≤ p.caps.getD k 0
  l2 : ∀ k, k < p.caps.length → loadOf Seq.Seat.second k p.seats ≤ p.caps.getD k 0
theorem goes_len (l : List Fd) (k : Nat) : (goes l k).length = l.countP fun f => f.st = (k : Int) := by
  unfold goes; rw [List.length_map, List.countP_eq_length_filter]
theorem room1 {p : Seq.Plan} (h : POk p) {items : List It} (hr : Room p items) : ∀ k, k < p.caps.length → ((goes (feeds1 p items) k).length : Int) ≤ p.caps.getD k 0 := by
  intro k hk
  refine Int.le_trans ?_ (hr.l1 k hk)
  refine Int.le_trans ?_ (Seq.count_seats (items := items.map It.stop) (g := Seq.Seat.first) (k := k) p.seats hr.vol)
  rw [goes_len, feeds1, List.countP_map, List.countP_map]
  refine Int.ofNat_le.2 (List.countP_mono_left fun x hx hP => ?_)
  simp only [Function.comp, decide_eq_true_eq] at hP ⊢
  unfold st1 at hP
  cases hs : findF p.seats x.stop with
  | none => rw [hs] at hP; simp only [] at hP; omega
  | some s =>
    rw [hs] at hP
    simp only [] at hP
    obtain ⟨h1, h2⟩ := findF_mem hs
    rw [List.any_eq_true]
    refine ⟨s, h1, ?_⟩
    split at hP
    · simp [h2, hP]
    · omega
theorem room2 {p : Seq.Plan} (h : POk p) {items : List It} (hnd : (items.map It.id).Nodup) (hr : Room p items) (s : Int) : ∀ k, k < p.caps.length → ((goes (feeds2 p items (leaveF (pass1 p s items))) k).length : Int) ≤ p.caps.getD k 0 := by
  intro k hk
  refine Int.le_trans ?_ (hr.l2 k hk)
  refine Int.le_trans ?_ (Seq.count_seats (items := items.map It.stop) (g := Seq.Seat.second) (k := k) p.seats hr.vol)
  rw [goes_len, feeds2, List.countP_map, List.countP_map]
  refine Int.ofNat_le.2 ?_
  have e0 : (leaveF (pass1 p s items)).countP ((fun f : Fd => decide (f.st = (k : Int))) ∘ fun id => ⟨id, st2 p items id⟩) = (leaveF (pass1 p s items)).countP fun id => (leaveF (pass1 p s items)).contains id && decide (st2 p items id = (k : Int)) := by
    apply List.countP_congr
    intro x hx
    simp [hx]
  have e1 : ((leaveF (pass1 p s items)).countP fun id => (leaveF (pass1 p s items)).contains id && decide (st2 p items id = (k : Int))) ≤ (items.map It.id).countP fun id => (leaveF (pass1 p s items)).contains id && decide (st2 p items id = (k : Int)) := by
    rw [← (two_perm1 h s items).countP_eq, List.countP_append]
    omega
  rw [e0]
  refine Nat.le_trans e1 ?_
  rw [List.countP_map]
  refine List.countP_mono_left fun x hx hP => ?_
  simp only [Function.comp, Bool.and_eq_true, decide_eq_true_eq, List.contains_iff_mem] at hP ⊢
  obtain ⟨hP1, hP⟩ := hP
  obtain ⟨x', t, g1, g2, g3, g4, g5⟩ := leave1_mem h s hnd hP1
  rw [itF_find hnd hx] at g3; cases g3
  unfold st2 at hP
  rw [itF_find hnd hx] at hP
  simp only [g5] at hP
  obtain ⟨h1, h2⟩ := findF_mem g5
  rw [List.any_eq_true]
  refine ⟨t, h1, ?_⟩
  split at hP
  · simp [h2, hP]
  · omega
/-- Within the volumes nothing runs over, and nothing is swept. -/
theorem two_room {p : Seq.Plan} (h : POk p) {items : List It} (hnd : (items.map It.id).Nodup) (hr : Room p items) (s : Int) :
    (pass1 p s items).over = [] ∧ (pass1 p s items).swept = List.replicate p.caps.length 0 ∧ (pass2 p s items).over = [] ∧ (pass2 p s items).swept = List.replicate p.caps.length 0 := by
  have a := playF_room (s := s) _ (feeds1_lt h items) (room1 h hr)
  have b := playF_room (s := s) _ (feeds2_lt h items (leaveF (pass1 p s items))) (room2 h hnd hr s)
  exact ⟨a.1, a.2.1, b.1, b.2.1⟩
theorem stackers_eq {caps : List Int} {s : Int} {l : List Fd} (hl : ∀ f ∈ l, f.st < caps.length) (hr : ∀ k, k < caps.length → ((goes l k).length : Int) ≤ caps.getD k 0) : (playF caps s l).stackers = (List.range caps.length).map (goes l) := by
  rw [getD_list (playF_sz caps s l).st]
  apply List.map_congr_left
  intro k hk
  exact ((playF_room (s := s) l hl hr).2.2.2 k (List.mem_range.1 hk)).1
/-- No stacker holds more than its capacity. -/
theorem two_fits {p : Seq.Plan} (h : POk p) {items : List It} (hnd : (items.map It.id).Nodup) (hr : Room p items) (s : Int) {k : Nat} (hk : k < p.caps.length) :
    (((pass1 p s items).stackers.getD k []).length : Int) ≤ p.caps.getD k 0 ∧ (((pass2 p s items).stackers.getD k []).length : Int) ≤ p.caps.getD k 0 := by
  have a := playF_room (s := s) _ (feeds1_lt h items) (room1 h hr)
  have b := playF_room (s := s) _ (feeds2_lt h items (leaveF (pass1 p s items))) (room2 h hnd hr s)
  have e1 : (pass1 p s items).stackers.getD k [] = goes (feeds1 p items) k := (a.2.2.2 k hk).1
  have e2 : (pass2 p s items).stackers.getD k [] = goes (feeds2 p items (leaveF (pass1 p s items))) k := (b.2.2.2 k hk).1
  rw [e1, e2]
  exact ⟨room1 h hr k hk, room2 h hnd hr s k hk⟩
/-- Items that are read in both passes. -/
def readAll (items : List It) : List It := items.map fun x => ⟨x.id, x.stop, true, true⟩
theorem readAll_ids (items : List It) : (readAll items).map It.id = items.map It.id := by simp [readAll, Function.comp_def]
theorem readAll_stops (items : List It) : (readAll items).map It.stop = items.map It.stop := by simp [readAll, Function.comp_def]
theorem Room.all {p : Seq.Plan} {items : List It} (h : Room p items) : Room p (readAll items) := ⟨by rw [readAll_stops]; exact h.vol, h.l1, h.l2⟩
/-- If all are read, the order is that of a run. -/
theorem order_run {p : Seq.Plan} (h : POk p) {items : List It} (hnd : (items.map It.id).Nodup) (hr : Room p items) (hall : ∀ x ∈ items, x.first = true ∧ x.second = true) (hs : ∀ x ∈ items, ∃ t, findF p.seats x.stop = some t) :
    orderF p 0 items = (Seq.runF p (items.map It.stop)).order.map fun i => ((items.map It.id)[i]?).getD 0 := by
  have hk1 : ∀ (i : Nat) (x : It), items[i]? = some x → st1 p x = (Seq.keyF p.seats (items.map It.stop) Seq.Seat.first i : Nat) ∧ st2 p items x.id = (Seq.keyF p.seats (items.map It.stop) Seq.Seat.second i : Nat) := fun i x hx => by
    obtain ⟨t, ht⟩ := hs x (List.mem_of_getElem? hx)
    obtain ⟨a1, a2⟩ := hall x (List.mem_of_getElem? hx)
    have hrg := h.range t (findF_mem ht).1
    constructor
    · unfold st1 Seq.keyF
      simp only [List.getElem?_map, hx, Option.map_some, Option.bind_some, ht, Option.elim_some, a1, if_true]
      omega
    · unfold st2 Seq.keyF
      rw [itF_of hnd hx]
      simp only [List.getElem?_map, hx, Option.map_some, Option.bind_some, ht, Option.elim_some, a2, if_true]
      omega
  let idAt : Nat → Int := fun i => ((items.map It.id)[i]?).getD 0
  have hid : ∀ (i : Nat) (x : It), items[i]? = some x → idAt i = x.id := fun i x hx => by simp [idAt, hx]
  have hitems : items.map It.id = (List.range items.length).map idAt := by
    apply List.ext_getElem?
    intro i
    by_cases hi : i < items.length
    · have hx := List.getElem?_eq_getElem hi
      simp [idAt, hi]
    · rw [List.getElem?_eq_none (by simpa using hi), List.getElem?_eq_none (by simpa using hi)]
  -- the first pass
  have h1 : leaveF (pass1 p 0 items) = (Seq.runF p (items.map It.stop)).first.flatten.map idAt := by
    unfold leaveF pass1
    rw [stackers_eq (feeds1_lt h items) (room1 h hr)]
    show _ = ((Seq.passF p.caps.length (Seq.keyF p.seats (items.map It.stop) Seq.Seat.first) (List.range (items.map It.stop).length)).flatten).map idAt
    rw [List.map_flatten]
    congr 1
    unfold Seq.passF
    rw [List.map_map]
    apply List.map_congr_left
    intro k hk
    have e : feeds1 p items = (List.range items.length).map fun i => (⟨idAt i, (Seq.keyF p.seats (items.map It.stop) Seq.Seat.first i : Nat)⟩ : Fd) := by
      apply List.ext_getElem?
      intro i
      by_cases hi : i < items.length
      · have hx := List.getElem?_eq_getElem hi
        simp only [feeds1, List.getElem?_map, hx, Option.map_some, List.getElem?_range hi]
        rw [(hk1 i _ hx).1, hid i _ hx]
      · rw [List.getElem?_eq_none (by simpa [feeds1] using hi), List.getElem?_eq_none (by simpa using hi)]
    unfold goes
    rw [e, List.filter_map, List.map_map]
    simp only [Function.comp_def, List.length_map]
    congr 1
    apply List.filter_congr
    intro i _
    simp only [decide_eq_decide]
    omega
  unfold orderF leaveF pass2
  rw [stackers_eq (feeds2_lt h items _) (room2 h hnd hr 0)]
  show _ = ((Seq.passF p.caps.length (Seq.keyF p.seats (items.map It.stop) Seq.Seat.second) (Seq.runF p (items.map It.stop)).first.flatten).flatten).map idAt
  rw [List.map_flatten]
  congr 1
  unfold Seq.passF
  rw [List.map_map]
  apply List.map_congr_left
  intro k hk
  have hmem : ∀ i ∈ (Seq.runF p (items.map It.stop)).first.flatten, i < items.length := fun i hi => by
    have : i ∈ (Seq.passF p.caps.length (Seq.keyF p.seats (items.map It.stop) Seq.Seat.first) (List.range (items.map It.stop).length)).flatten := hi
    obtain ⟨l, hl, hil⟩ := List.mem_flatten.1 this
    unfold Seq.passF at hl
    obtain ⟨j, _, rfl⟩ := List.mem_map.1 hl
    simpa using (List.mem_filter.1 hil).1
  rw [h1]
  generalize (Seq.runF p (items.map It.stop)).first.flatten = fl at hmem
  unfold goes feeds2
  rw [List.map_map, List.filter_map, List.map_map]
  simp only [Function.comp_def]
  congr 1
  apply List.filter_congr
  intro i hi
  have hx := List.getElem?_eq_getElem (hmem i hi)
  rw [hid i _ hx, (hk1 i _ hx).2]
  simp only [decide_eq_decide]
  omega
end Go.Sx.Srt
namespace Go.Sx.Srt
open Go.Sx.Seq (findF lexLt loadOf)
/-! ## passes -/
def capN (cs : List UInt8) (n : Nat) : List Int := (List.range n).map fun i => 1 + ((cs.getD i 0).toNat : Int) % 16
theorem capN_succ (cs : List UInt8) (n : Nat) : capN cs (n + 1) = capN cs n ++ [1 + ((cs.getD n 0).toNat : Int) % 16] := by simp [capN, List.range_succ]
theorem capN_len (cs : List UInt8) (n : Nat) : (capN cs n).length = n := by simp [capN]
def capL (cs : List UInt8) : List Int := if cs.length = 0 then [3] else capN cs (min cs.length 12)
theorem capL_mem {cs : List UInt8} : ∀ c ∈ capL cs, 1 ≤ c ∧ c ≤ 16 := fun c hc => by
  unfold capL at hc
  split at hc
  · simp at hc; omega
  · obtain ⟨i, _, rfl⟩ := List.mem_map.1 hc
    omega
theorem capL_len (cs : List UInt8) : 1 ≤ (capL cs).length ∧ (capL cs).length ≤ 12 := by
  unfold capL
  split
  · simp
  · rw [capN_len]; omega
theorem capL_ok (cs : List UInt8) : capsOk (capL cs) := ⟨by have := capL_len cs; omega, fun c hc => by have := capL_mem c hc; omega⟩
def fdN (n : Nat) (l : List UInt8) (k : Nat) : List Fd := (List.range k).map fun (i : Nat) => ⟨1 + (37 * (i : Int)) % 151, ((l.getD i 0).toNat : Int) % ((n : Int) + 1) - 1⟩
theorem fdN_succ (n : Nat) (l : List UInt8) (k : Nat) : fdN n l (k + 1) = fdN n l k ++ [⟨1 + (37 * (k : Int)) % 151, ((l.getD k 0).toNat : Int) % ((n : Int) + 1) - 1⟩] := by simp [fdN, List.range_succ]
theorem fdN_len (n : Nat) (l : List UInt8) (k : Nat) : (fdN n l k).length = k := by simp [fdN]
def fdL (n : Nat) (l : List UInt8) : List Fd := fdN n l (min l.length 150)
theorem fdL_len (n : Nat) (l : List UInt8) : (fdL n l).length ≤ 150 := by unfold fdL; rw [fdN_len]; omega
theorem inj37 {i j : Nat} (hi : i < 151) (hj : j < 151) (h : (37 * (i : Int)) % 151 = (37 * (j : Int)) % 151) : i = j := by omega
theorem fdL_ok (n : Nat) (l : List UInt8) : FdsOk n (fdL n l) := by
  refine ⟨fun f hf => ?_, ?_, by have := fdL_len n l; omega⟩
  · obtain ⟨i, hi, rfl⟩ := List.mem_map.1 hf
    unfold Fd.ok
    have h1 := Int.emod_nonneg ((l.getD i 0).toNat : Int) (show (n : Int) + 1 ≠ 0 by omega)
    have h2 := Int.emod_lt_of_pos ((l.getD i 0).toNat : Int) (show 0 < (n : Int) + 1 by omega)
    simp only []
    omega
  · rw [List.Nodup, List.pairwise_iff_getElem]
    intro i j hi hj hij
    have hl := fdL_len n l
    have hi' : i < (fdL n l).length := by simpa using hi
    have hj' : j < (fdL n l).length := by simpa using hj
    simp only [List.getElem_map, fdL, fdN, List.getElem_range]
    intro e
    replace e : 1 + (37 * (i : Int)) % 151 = 1 + (37 * (j : Int)) % 151 := e
    have := inj37 (i := i) (j := j) (by omega) (by omega) (by omega)
    omega
theorem fdL_st (n : Nat) (l : List UInt8) : ∀ f ∈ fdL n l, -1 ≤ f.st ∧ f.st < n := fun f hf => ((fdL_ok n l).ok f hf).2
theorem fdL_lt (n : Nat) (l : List UInt8) : ∀ f ∈ fdL n l, f.st < n := fun f hf => (fdL_st n l f hf).2
/-! ## routes and items -/
def stopN (vs : List UInt8) (n : Nat) : List Seq.Stop := (List.range n).map fun (i : Nat) => ⟨500 - 3 * (i : Int), 1 + ((vs.getD i 0).toNat : Int) % 4⟩
theorem stopN_succ (vs : List UInt8) (n : Nat) : stopN vs (n + 1) = stopN vs n ++ [⟨500 - 3 * (n : Int), 1 + ((vs.getD n 0).toNat : Int) % 4⟩] := by simp [stopN, List.range_succ]
theorem stopN_len (vs : List UInt8) (n : Nat) : (stopN vs n).length = n := by simp [stopN]
def stopL (vs : List UInt8) : List Seq.Stop := stopN vs (min vs.length 40)
theorem stopL_len (vs : List UInt8) : (stopL vs).length ≤ 40 := by unfold stopL; rw [stopN_len]; omega
theorem stopL_get {vs : List UInt8} {i : Nat} (h : i < (stopL vs).length) : (stopL vs)[i]? = some ⟨500 - 3 * (i : Int), 1 + ((vs.getD i 0).toNat : Int) % 4⟩ := by
  unfold stopL at h ⊢
  rw [stopN_len] at h
  simp [stopN, h]
theorem stopL_route (vs : List UInt8) : Seq.routeFrom [] (stopL vs) := by
  have hl := stopL_len vs
  refine ⟨fun s hs => ?_, ?_, by simp⟩
  · obtain ⟨i, hi⟩ := List.getElem?_of_mem hs
    have hlt := (List.getElem?_eq_some_iff.1 hi).1
    rw [stopL_get hlt] at hi
    cases hi
    unfold Seq.Stop.ok
    simp only []
    omega
  · rw [List.Nodup, List.pairwise_iff_getElem]
    intro i j hi hj hij
    have hi' : i < (stopL vs).length := by simpa using hi
    have hj' : j < (stopL vs).length := by simpa using hj
    simp only [List.getElem_map, stopL, stopN, List.getElem_range]
    omega
/-- The capacities of the machine for a route. -/
def capB (cs : List UInt8) : List Int := (capL cs).map fun c => c + 4
theorem capB_len (cs : List UInt8) : (capB cs).length = (capL cs).length := by simp [capB]
theorem capB_ok (cs : List UInt8) : Seq.machineOk (capB cs) := by
  have h1 := capL_len cs
  refine ⟨by rw [capB_len]; omega, fun c hc => ?_⟩
  obtain ⟨d, hd, rfl⟩ := List.mem_map.1 hc
  have := capL_mem d hd
  omega
def itAt (l : List Seq.Stop) (ps us : List UInt8) (i : Nat) : It :=
  ⟨1 + 7 * (i : Int), ((l[(ps.getD i 0).toNat % (l.length + 1)]?).map Seq.Stop.id).getD 0,
    if i < us.length then decide ((us.getD i 0).toNat % 8 ≠ 0) else true, if i < us.length then decide ((us.getD i 0).toNat % 8 ≠ 1) else true⟩
def itN (l : List Seq.Stop) (ps us : List UInt8) (n : Nat) : List It := (List.range n).map (itAt l ps us)
theorem itN_succ (l : List Seq.Stop) (ps us : List UInt8) (n : Nat) : itN l ps us (n + 1) = itN l ps us n ++ [itAt l ps us n] := by simp [itN, List.range_succ]
theorem itN_len (l : List Seq.Stop) (ps us : List UInt8) (n : Nat) : (itN l ps us n).length = n := by simp [itN]
def itL (l : List Seq.Stop) (ps us : List UInt8) : List It := itN l ps us (min ps.length 200)
theorem itL_len (l : List Seq.Stop) (ps us : List UInt8) : (itL l ps us).length ≤ 200 := by unfold itL; rw [itN_len]; omega
theorem itL_get {l : List Seq.Stop} {ps us : List UInt8} {i : Nat} (h : i < (itL l ps us).length) : (itL l ps us)[i]? = some (itAt l ps us i) := by
  unfold itL at h ⊢
  rw [itN_len] at h
  simp [itN, h]
theorem itL_id {l : List Seq.Stop} {ps us : List UInt8} {i : Nat} {x : It} (h : (itL l ps us)[i]? = some x) : x.id = 1 + 7 * (i : Int) := by
  rw [itL_get (List.getElem?_eq_some_iff.1 h).1] at h
  cases h; rfl
theorem itL_nd (l : List Seq.Stop) (ps us : List UInt8) : ((itL l ps us).map It.id).Nodup := by
  rw [List.Nodup, List.pairwise_iff_getElem]
  intro i j hi hj hij
  have hi' : i < (itL l ps us).length := by simpa using hi
  have hj' : j < (itL l ps us).length := by simpa using hj
  simp only [List.getElem_map]
  rw [itL_id (List.getElem?_eq_getElem hi'), itL_id (List.getElem?_eq_getElem hj')]
  omega
theorem itL_rng (l : List Seq.Stop) (ps us : List UInt8) : ∀ x ∈ itL l ps us, 1 ≤ x.id ∧ x.id ≤ 999999 := fun x hx => by
  obtain ⟨i, hi⟩ := List.getElem?_of_mem hx
  have h1 := (List.getElem?_eq_some_iff.1 hi).1
  have h2 := itL_len l ps us
  have := itL_id hi
  omega
/-- Items that are valid. -/
structure ItsOk (items : List It) : Prop where
  nd : (items.map It.id).Nodup
  rng : ∀ x ∈ items, 1 ≤ x.id ∧ x.id ≤ 999999
  len : items.length ≤ 2000
theorem itL_ok (l : List Seq.Stop) (ps us : List UInt8) : ItsOk (itL l ps us) := ⟨itL_nd l ps us, itL_rng l ps us, by have := itL_len l ps us; omega⟩
theorem badI_false : ∀ {l : List It} {met : List Int}, badI met l = false ↔ (∀ f ∈ l, 1 ≤ f.id ∧ f.id ≤ 999999) ∧ (l.map It.id).Nodup ∧ ∀ f ∈ l, f.id ∉ met
  | [], met => by simp [badI]
  | f :: r, met => by
    rw [badI]
    by_cases h : (1 ≤ f.id ∧ f.id ≤ 999999) ∧ f.id ∉ met
    · rw [if_pos h, badI_false]
      simp only [List.mem_cons, List.map_cons, List.nodup_cons, List.mem_append, List.mem_map, List.not_mem_nil, or_false]
      constructor
      · rintro ⟨h1, h2, h3⟩
        refine ⟨?_, ⟨?_, h2⟩, ?_⟩
        · rintro x (rfl | hx)
          · exact h.1
          · exact h1 x hx
        · rintro ⟨x, hx, e⟩
          exact h3 x hx (.inr e)
        · rintro x (rfl | hx)
          · exact h.2
          · exact fun g => h3 x hx (.inl g)
      · rintro ⟨h1, ⟨h2, h3⟩, h4⟩
        refine ⟨fun x hx => h1 x (.inr hx), h3, fun x hx => ?_⟩
        rintro (g | g)
        · exact h4 x (.inr hx) g
        · exact h2 ⟨x, hx, g⟩
    · rw [if_neg h]
      constructor
      · intro g; cases g
      · rintro ⟨h1, _, h3⟩
        exact absurd ⟨h1 f List.mem_cons_self, h3 f List.mem_cons_self⟩ h
theorem ItsOk.e0 {items : List It} (h : ItsOk items) : badI [] items = false := badI_false.2 ⟨h.rng, h.nd, by simp⟩
theorem twoE_ok {l : List Seq.Stop} {caps : List Int} {p : Seq.Plan} (h : Seq.Good l caps p) (hm : Seq.machineOk caps) (hr : Seq.routeFrom [] l) (hl : l.length ≤ 1000) {s : Int} (hs : 0 ≤ s ∧ s ≤ 1000) {items : List It} (hi : ItsOk items) : twoE p s items = 0 := by
  unfold twoE
  rw [h.check hm hr hl, if_neg (by simp), if_neg (by omega), if_neg (by have := hi.len; omega), hi.e0]
  rfl
/-! ## the two passes are runs -/
theorem feeds1_ok {p : Seq.Plan} (h : POk p) {items : List It} (hi : ItsOk items) : FdsOk p.caps.length (feeds1 p items) := by
  refine ⟨fun f hf => ?_, by rw [feeds1_items]; exact hi.nd, by simp [feeds1]; exact hi.len⟩
  obtain ⟨x, hx, rfl⟩ := List.mem_map.1 hf
  exact ⟨hi.rng x hx, st1_lt h x⟩
theorem leave1_nd {p : Seq.Plan} (h : POk p) {items : List It} (hi : ItsOk items) (s : Int) : (leaveF (pass1 p s items)).Nodup := by
  have := (two_perm1 h s items).nodup_iff.2 hi.nd
  exact (List.nodup_append.1 this).1
theorem leave1_len {p : Seq.Plan} (h : POk p) (items : List It) (s : Int) : (leaveF (pass1 p s items)).length ≤ items.length := by
  have := (two_perm1 h s items).length_eq
  rw [List.length_append, List.length_map] at this
  omega
theorem feeds2_ok {p : Seq.Plan} (h : POk p) {items : List It} (hi : ItsOk items) (s : Int) : FdsOk p.caps.length (feeds2 p items (leaveF (pass1 p s items))) := by
  refine ⟨fun f hf => ?_, by rw [feeds2_items]; exact leave1_nd h hi s, by
    have := leave1_len h items s
    have := hi.len
    simp only [feeds2, List.length_map]; omega⟩
  obtain ⟨id, hid, rfl⟩ := List.mem_map.1 hf
  obtain ⟨x, t, hx, rfl, _⟩ := leave1_mem h s hi.nd hid
  exact ⟨hi.rng x hx, st2_lt h items _⟩
end Go.Sx.Srt
namespace Go.Sx.Srt
open Go.Sx.Seq (addAt addAt_len)
structure Bd (k : Nat) (m : M) : Prop where
  ov : m.over.length ≤ k
  rj : m.rej.length ≤ k
  ev : m.evs.length ≤ 2 * k
  st : ∀ j, (m.stackers.getD j []).length ≤ k
  hd : ∀ j, 0 ≤ m.held.getD j 0 ∧ m.held.getD j 0 ≤ k
  sw : ∀ j, 0 ≤ m.swept.getD j 0 ∧ m.swept.getD j 0 ≤ k
  lf : -9223372036854775808 ≤ m.left ∧ m.left ≤ 9223372036854775807
theorem getD_rep {α : Type} (n j : Nat) (a : α) : (List.replicate n a).getD j a = a := by
  by_cases h : j < n <;> simp [h]
theorem Bd.new (n : Nat) {s : Int} (hs : -9223372036854775808 ≤ s ∧ s ≤ 9223372036854775807) : Bd 0 (M.new n s) :=
  ⟨Nat.le_refl _, Nat.le_refl _, Nat.le_refl _, fun j => by simp only [M.new, getD_rep]; simp, fun j => by simp only [M.new, getD_rep]; omega, fun j => by simp only [M.new, getD_rep]; omega, hs⟩
theorem Bd.take {k : Nat} {m : M} (h : Bd k m) (caps : List Int) (f : Fd) : Bd (k + 1) (takeF caps m f) := by
  obtain ⟨h1, h2, h3, h4, h5, h6, h7⟩ := h
  have hp : ∀ j, ((putAt m.stackers f.st.toNat f.item).getD j []).length ≤ k + 1 := fun j => by
    have := h4 j
    rw [putAt_getD, List.length_append]; split <;> simp only [List.length_cons, List.length_nil] <;> omega
  have ha : ∀ (l : List Int), (∀ j, 0 ≤ l.getD j 0 ∧ l.getD j 0 ≤ k) → ∀ j, 0 ≤ (addAt l f.st.toNat 1).getD j 0 ∧ (addAt l f.st.toNat 1).getD j 0 ≤ ((k + 1 : Nat) : Int) := fun l hl j => by
    have := hl j
    rw [addAt_getD]; split <;> omega
  have hs : ∀ j, 0 ≤ (m.held.set f.st.toNat 0).getD j 0 ∧ (m.held.set f.st.toNat 0).getD j 0 ≤ k := fun j => by
    have := h5 j
    rw [getD_set]; split <;> omega
  rcases take_cases caps m f with ⟨_, e⟩ | ⟨_, _, e⟩ | ⟨_, _, _, e⟩ | ⟨_, _, _, e⟩ <;> rw [e]
  · exact ⟨by simp [note]; omega, by simp [note]; omega, by simp [note]; omega, fun j => by have := h4 j; simp only [note]; omega, fun j => by have := h5 j; simp only [note]; omega, fun j => by have := h6 j; simp only [note]; omega, h7⟩
  · exact ⟨by simp [note, stack]; omega, by simp [note, stack]; omega, by simp [note, stack]; omega, hp, ha _ h5, fun j => by have := h6 j; simp only [note, stack]; omega, h7⟩
  · exact ⟨by simp [note, stack]; omega, by simp [note, stack]; omega, by simp [note, stack]; omega, hp, ha _ hs, ha _ h6, by simp only [note, stack]; omega⟩
  · exact ⟨by simp [note]; omega, by simp [note]; omega, by simp [note]; omega, fun j => by have := h4 j; simp only [note]; omega, fun j => by have := h5 j; simp only [note]; omega, fun j => by have := h6 j; simp only [note]; omega, h7⟩
theorem playF_bd (caps : List Int) {s : Int} (hs : -9223372036854775808 ≤ s ∧ s ≤ 9223372036854775807) : ∀ l : List Fd, Bd l.length (playF caps s l) := by
  have : ∀ (l : List Fd) (k : Nat) (m : M), Bd k m → Bd (k + l.length) (l.foldl (takeF caps) m) := by
    intro l
    induction l with
    | nil => exact fun k m h => h
    | cons f r ih =>
      intro k m h
      have := ih (k + 1) _ (h.take caps f)
      simp only [List.length_cons, List.foldl_cons]
      rwa [show k + (r.length + 1) = k + 1 + r.length from by omega]
  intro l
  have := this l 0 _ (Bd.new caps.length hs)
  rwa [Nat.zero_add] at this
end Go.Sx.Srt
namespace Go.Sx.Srt
open Go.Sx.Seq (addAt addAt_len findF lexLt misF misF_in misF_first misF_next)
theorem lexLt_trans {a b c : Seq.Seat} (h1 : lexLt a b) (h2 : lexLt b c) : lexLt a c := by
  unfold lexLt at *; omega
theorem misF_pw {n : Nat} : ∀ {l : List Seq.Seat} {q : Option Seq.Seat} {i : Nat}, misF n q i l = none → l.Pairwise lexLt ∧ ∀ a, q = some a → ∀ b ∈ l, lexLt a b
  | [], _, _, _ => ⟨List.Pairwise.nil, by simp⟩
  | s :: r, q, i, h => by
    by_cases hr : (0 ≤ s.first ∧ s.first < n) ∧ (0 ≤ s.second ∧ s.second < n)
    case neg => rw [misF_in hr] at h; cases h
    cases q with
    | none =>
      rw [misF_first hr] at h
      obtain ⟨h1, h2⟩ := misF_pw h
      exact ⟨List.Pairwise.cons (fun b hb => h2 s rfl b hb) h1, by simp⟩
    | some a =>
      rw [misF_next hr] at h
      split at h
      · cases h
      · rename_i hc
        obtain ⟨h1, h2⟩ := misF_pw h
        have hl : lexLt a s := by unfold lexLt; omega
        refine ⟨List.Pairwise.cons (fun b hb => h2 s rfl b hb) h1, fun a' ha b hb => ?_⟩
        cases ha
        rcases List.mem_cons.1 hb with rfl | hb
        · exact hl
        · exact lexLt_trans hl (h2 s rfl b hb)
theorem POk.of_check {p : Seq.Plan} (h : (Seq.checkF p).2 = 0) : POk p ∧ Seq.checkF p = (0, 0) := by
  unfold Seq.checkF at h ⊢
  by_cases hm : Seq.machineOk p.caps
  case neg => rw [if_pos hm] at h; cases h
  rw [if_neg (fun g => g hm)] at h ⊢
  by_cases hb : 1000 < p.seats.length
  · rw [if_pos hb] at h; cases h
  rw [if_neg hb] at h ⊢
  cases hw : Seq.wrongF [] 0 (p.seats.map Seq.Seat.asStop) with
  | some i => rw [hw] at h; cases h
  | none =>
  rw [hw] at h
  simp only [] at h ⊢
  cases hmi : Seq.misF p.caps.length none 0 p.seats with
  | some i => rw [hmi] at h; cases h
  | none =>
  rw [hmi] at h
  simp only [] at h ⊢
  by_cases hl : p.first.length ≠ p.caps.length ∨ p.second.length ≠ p.caps.length
  · rw [if_pos hl] at h; cases h
  rw [if_neg hl] at h ⊢
  cases hd : Seq.diffF 0 p.first p.second (Seq.loadsF Seq.Seat.first p.caps.length p.seats) (Seq.loadsF Seq.Seat.second p.caps.length p.seats) with
  | some i => rw [hd] at h; cases h
  | none =>
  rw [hd] at h
  simp only [] at h ⊢
  cases ho : Seq.overF 0 p.caps (Seq.loadsF Seq.Seat.first p.caps.length p.seats) (Seq.loadsF Seq.Seat.second p.caps.length p.seats) with
  | some i => rw [ho] at h; cases h
  | none =>
  have hr := Seq.wrongF_none.1 hw
  refine ⟨⟨hm, ?_, fun s hs => Seq.misF_range hmi s hs, (misF_pw hmi).1⟩, rfl⟩
  have := hr.2.1
  simpa [List.map_map, Function.comp_def, Seq.Seat.asStop] using this
theorem playF_flat_len {caps : List Int} {s : Int} {l : List Fd} (hl : ∀ f ∈ l, f.st < caps.length) : (leaveF (playF caps s l)).length ≤ l.length := by
  have := (playF_all (s := s) hl).length_eq
  unfold allOf at this
  rw [List.length_append, List.length_map] at this
  unfold leaveF
  omega
theorem feeds1_take (p : Seq.Plan) (items : List It) {j : Nat} {x : It} (h : items[j]? = some x) : feeds1 p (items.take (j + 1)) = feeds1 p (items.take j) ++ [⟨x.id, st1 p x⟩] := by
  rw [List.take_add_one, h]
  simp [feeds1]
theorem feeds2_take (p : Seq.Plan) (items : List It) (l : List Int) {j : Nat} {x : Int} (h : l[j]? = some x) : feeds2 p items (l.take (j + 1)) = feeds2 p items (l.take j) ++ [⟨x, st2 p items x⟩] := by
  rw [List.take_add_one, h]
  simp [feeds2]
end Go.Sx.Srt
namespace Go.Sx.Srt
open Go.Sx.Seq (addAt addAt_len)
/-- What one feed does: what came before it, what comes behind it, and what the whole play has of it. -/
def stepAt (caps : List Int) (P P' m : M) (x st : Int) : Prop :=
  (st = -1 ∧ P'.held = P.held ∧ P'.left = P.left ∧ P'.evs.length = P.evs.length + 1 ∧ m.evs[P.evs.length]? = some ⟨4, x, -1⟩ ∧ m.rej[P.rej.length]? = some x ∧ P'.rej.length = P.rej.length + 1 ∧ P'.over.length = P.over.length ∧ P'.stackers = P.stackers) ∨
  (∃ k h c, st = ((k : Nat) : Int) ∧ k < caps.length ∧ P.held[k]? = some h ∧ caps[k]? = some c ∧ (0 ≤ h ∧ h < c) ∧ P'.held = P.held.set k (h + 1) ∧ P'.left = P.left ∧ P'.evs.length = P.evs.length + 1 ∧ m.evs[P.evs.length]? = some ⟨1, x, k⟩ ∧
    (m.stackers.getD k [])[(P.stackers.getD k []).length]? = some x ∧ P'.stackers = P.stackers.set k (P.stackers.getD k [] ++ [x]) ∧ P'.rej.length = P.rej.length ∧ P'.over.length = P.over.length) ∨
  (∃ k c, st = ((k : Nat) : Int) ∧ k < caps.length ∧ P.held[k]? = some c ∧ caps[k]? = some c ∧ 1 ≤ c ∧ 0 < P.left ∧ P'.held = (P.held.set k 0).set k (0 + 1) ∧ P'.left = P.left - 1 ∧ P'.evs.length = P.evs.length + 2 ∧ m.evs[P.evs.length]? = some ⟨2, x, k⟩ ∧ m.evs[P.evs.length + 1]? = some ⟨1, x, k⟩ ∧
    (m.stackers.getD k [])[(P.stackers.getD k []).length]? = some x ∧ P'.stackers = P.stackers.set k (P.stackers.getD k [] ++ [x]) ∧ P'.rej.length = P.rej.length ∧ P'.over.length = P.over.length) ∨
  (∃ k c, st = ((k : Nat) : Int) ∧ k < caps.length ∧ P.held[k]? = some c ∧ caps[k]? = some c ∧ 1 ≤ c ∧ P.left = 0 ∧ P'.held = P.held ∧ P'.left = 0 ∧ P'.evs.length = P.evs.length + 1 ∧ m.evs[P.evs.length]? = some ⟨3, x, k⟩ ∧
    m.over[P.over.length]? = some x ∧ (m.stackers.getD k [])[(P.stackers.getD k []).length]? ≠ some x ∧ P'.stackers = P.stackers ∧ P'.rej.length = P.rej.length ∧ P'.over.length = P.over.length + 1)
theorem step_at {caps : List Int} {s : Int} {l : List Fd} {n : Nat} {x st : Int} (hc : ∀ c ∈ caps, 1 ≤ c) (hs : 0 ≤ s) (hl : ∀ f ∈ l, -1 ≤ f.st ∧ f.st < caps.length) (hnd : (l.map Fd.item).Nodup) (hx : l[n]? = some ⟨x, st⟩) :
    stepAt caps (playF caps s (l.take n)) (playF caps s (l.take (n + 1))) (playF caps s l) x st := by
  have hst := hl _ (List.mem_of_getElem? hx)
  simp only [] at hst
  have hinv := playF_inv hc hs (l := l.take n) (fun f hf => (hl f (List.mem_of_mem_take hf)).2)
  have hsz := hinv.toSz
  have e0 := playF_take (caps := caps) (s := s) hx
  have hev := @evs_at caps s l n ⟨x, st⟩ hx
  have hrj := @rej_at caps s l n ⟨x, st⟩ hx
  have hov := @over_at caps s l n ⟨x, st⟩ hx
  have hsk := fun k => @st_at caps s l n k ⟨x, st⟩ hx
  have hsn := fun k => @st_not caps s l n k ⟨x, st⟩ hnd hx
  rw [e0]
  generalize playF caps s (l.take n) = P at *
  generalize playF caps s l = m at *
  unfold stepAt
  by_cases hneg : st < 0
  · left
    have e : takeF caps P ⟨x, st⟩ = note { P with rej := P.rej ++ [x] } [⟨4, x, -1⟩] := by unfold takeF; rw [if_pos hneg]
    rw [e] at hev hrj ⊢
    refine ⟨by omega, rfl, rfl, by simp [note], by simpa using hev (t := 0) (es := [⟨4, x, -1⟩]) rfl rfl, hrj rfl, by simp [note], rfl, rfl⟩
  obtain ⟨k, rfl⟩ := Int.eq_ofNat_of_zero_le (show 0 ≤ st by omega)
  have hk : k < caps.length := by omega
  have hcg : caps[k]? = some caps[k] := List.getElem?_eq_getElem hk
  have hhg : P.held[k]? = some (P.held[k]'(by rw [hsz.hd]; exact hk)) := List.getElem?_eq_getElem _
  have hc1 := hc _ (List.getElem_mem hk)
  have hh := hinv.held k hk
  have dc : caps.getD k 0 = caps[k] := by simp [hcg]
  have dh : P.held.getD k 0 = P.held[k]'(by rw [hsz.hd]; exact hk) := by simp [hhg]
  rw [dc, dh] at hh
  generalize P.held[k]'(by rw [hsz.hd]; exact hk) = h at *
  generalize caps[k] = c at *
  right
  by_cases h1 : h < c
  · left
    have e : takeF caps P ⟨x, k⟩ = stack (note P [⟨1, x, k⟩]) ⟨x, k⟩ := by
      unfold takeF; simp only [Int.toNat_natCast]; rw [if_neg hneg, dc, dh, if_pos h1]
    rw [e] at hev hsk ⊢
    refine ⟨k, h, c, rfl, hk, hhg, hcg, ⟨hh.1, h1⟩, ?_, rfl, by simp [stack, note], by simpa using hev (t := 0) (es := [⟨1, x, k⟩]) rfl rfl, hsk k ?_, ?_, rfl, rfl⟩
    · simp only [stack, note, addAt, Int.toNat_natCast, dh]
    · simp only [stack, note, Int.toNat_natCast, putAt_getD]
      rw [if_pos ⟨trivial, by rw [hsz.st]; exact hk⟩]
    · simp only [stack, note, Int.toNat_natCast, putAt]
  · right
    have hhc : h = c := by omega
    subst hhc
    by_cases h2 : 0 < P.left
    · left
      have e : takeF caps P ⟨x, k⟩ = stack (note { P with left := P.left - 1, held := P.held.set k 0, swept := addAt P.swept k 1 } [⟨2, x, k⟩, ⟨1, x, k⟩]) ⟨x, k⟩ := by
        unfold takeF; simp only [Int.toNat_natCast]; rw [if_neg hneg, dc, dh, if_neg h1, if_pos h2]
      rw [e] at hev hsk ⊢
      refine ⟨k, h, rfl, hk, hhg, hcg, hc1, h2, ?_, rfl, by simp [stack, note], by simpa using hev (t := 0) (es := [⟨2, x, k⟩, ⟨1, x, k⟩]) rfl rfl, by simpa using hev (t := 1) (es := [⟨2, x, k⟩, ⟨1, x, k⟩]) rfl rfl, hsk k ?_, ?_, rfl, rfl⟩
      · have hlt : k < P.held.length := by rw [hsz.hd]; exact hk
        simp [stack, note, addAt, Int.toNat_natCast, hlt]
      · simp only [stack, note, Int.toNat_natCast, putAt_getD]
        rw [if_pos ⟨trivial, by rw [hsz.st]; exact hk⟩]
      · simp only [stack, note, Int.toNat_natCast, putAt]
    · right
      have hl0 := hinv.left0
      have e : takeF caps P ⟨x, k⟩ = note { P with over := P.over ++ [x] } [⟨3, x, k⟩] := by
        unfold takeF; simp only [Int.toNat_natCast]; rw [if_neg hneg, dc, dh, if_neg h1, if_neg h2]
      rw [e] at hev hov hsn ⊢
      refine ⟨k, h, rfl, hk, hhg, hcg, hc1, by omega, rfl, by simp only [note]; omega, by simp [note], by simpa using hev (t := 0) (es := [⟨3, x, k⟩]) rfl rfl, hov rfl, hsn k rfl, rfl, rfl, by simp [note]⟩
/-- The sum of the numbers of a stacker's sweeps. -/
theorem play_end {caps : List Int} {s : Int} {l : List Fd} (hc : ∀ c ∈ caps, 1 ≤ c) (hs : 0 ≤ s) (hl : ∀ f ∈ l, f.st < caps.length) {k : Nat} {c : Int} (hk : caps[k]? = some c) :
    ((playF caps s l).stackers.getD k []).length ≤ c * (1 + (playF caps s l).swept.getD k 0) ∧ (0 < (playF caps s l).swept.getD k 0 → c * (playF caps s l).swept.getD k 0 < ((playF caps s l).stackers.getD k []).length) := by
  have hinv := playF_inv (s := s) hc hs hl
  have hlt := (List.getElem?_eq_some_iff.1 hk).1
  have h1 := hinv.len k hlt
  have h2 := hinv.held k hlt
  have h3 := hinv.more k hlt
  have dc : caps.getD k 0 = c := by simp [hk]
  rw [dc] at h1 h2
  rw [Int.mul_add]
  constructor
  · omega
  · intro h; have := h3 h; omega
theorem play_sweeps {caps : List Int} {s : Int} {l : List Fd} (hc : ∀ c ∈ caps, 1 ≤ c) (hs : 0 ≤ s) (hl : ∀ f ∈ l, f.st < caps.length) : (playF caps s l).swept.sum ≤ s ∧ ((playF caps s l).over.length ≠ 0 → (playF caps s l).swept.sum = s) := by
  have hinv := playF_inv (s := s) hc hs hl
  have h1 := hinv.left
  have h2 := hinv.left0
  refine ⟨by omega, fun h => ?_⟩
  have := hinv.over (fun e => h (by rw [e]; rfl))
  omega
end Go.Sx.Srt
