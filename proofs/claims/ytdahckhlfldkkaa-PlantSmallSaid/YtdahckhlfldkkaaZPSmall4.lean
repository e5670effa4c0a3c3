/- A part of the proofs of this seat: a small logic of walks, plain laws, and what some of the program's functions compute, shown by walks through their code. Conditions: the hypotheses that each theorem names. -/
import Derived.Test.YtdahckhlfldkkaaZPSmall3
set_option linter.unusedSimpArgs false
set_option linter.unusedVariables false
set_option linter.unusedSectionVars false
namespace Go.Sx.Srt
open Go.Sx.Seq (zm3 zl8)
theorem zt2 {α : Type} (l : List α) (k j : Nat) (v d : α) : (l.set k v).getD j d = if k = j ∧ k < l.length then v else l.getD j d := by
  simp only [List.getD_eq_getElem?_getD, List.getElem?_set]
  by_cases e : k = j
  · subst e
    by_cases h : k < l.length
    · simp [h]
    · simp [h]
  · simp [e]
theorem getD_in {α : Type} {l : List α} {k : Nat} {d : α} (h : k < l.length) : l[k]? = some (l.getD k d) := by simp [h]
theorem yF9 (l : List Int) (k : Nat) (v : Int) (h : k < l.length) : (l.set k v).sum = l.sum - l.getD k 0 + v := by
  induction l generalizing k with
  | nil => simp at h
  | cons a l ih =>
    cases k with
    | zero => simp; omega
    | succ k =>
      have := ih k (by simpa using h)
      simp only [List.set_cons_succ, List.sum_cons, List.getD_cons_succ]
      omega
theorem yt0 (l : List Int) (k : Nat) (v : Int) (h : k < l.length) : (zm3 l k v).sum = l.sum + v := by
  unfold zm3; rw [yF9 _ _ _ h]; omega
theorem zh7 (l : List Int) (k j : Nat) (v : Int) : (zm3 l k v).getD j 0 = l.getD j 0 + if k = j ∧ k < l.length then v else 0 := by
  unfold zm3
  rw [zt2]
  split
  · rename_i h; rw [h.1]
  · omega
theorem zp6 (l : List (List Int)) (k j : Nat) (x : Int) : (putAt l k x).getD j [] = l.getD j [] ++ if k = j ∧ k < l.length then [x] else [] := by
  unfold putAt
  rw [zt2]
  split
  · rename_i h; rw [h.1]
  · simp
theorem zT9 (l : List (List Int)) (k : Nat) (x : Int) (h : k < l.length) : (putAt l k x).flatten.Perm (l.flatten ++ [x]) := by
  induction l generalizing k with
  | nil => simp at h
  | cons a l ih =>
    cases k with
    | zero =>
      simp only [putAt, List.set_cons_zero, List.flatten_cons, List.getD_cons_zero, List.append_assoc]
      exact List.Perm.append_left _ List.perm_append_comm
    | succ k =>
      have := ih k (by simpa using h)
      simp only [putAt, List.set_cons_succ, List.flatten_cons, List.getD_cons_succ, List.append_assoc] at this ⊢
      exact List.Perm.append_left _ this
theorem zu1 (caps : List Int) (m : M) (f : Fd) :
    (f.st < 0 ∧ zg2 caps m f = note { m with rej := m.rej ++ [f.item] } [⟨4, f.item, -1⟩]) ∨
    (0 ≤ f.st ∧ m.held.getD f.st.toNat 0 < caps.getD f.st.toNat 0 ∧ zg2 caps m f = ze0 (note m [⟨1, f.item, f.st⟩]) f) ∨
    (0 ≤ f.st ∧ ¬ m.held.getD f.st.toNat 0 < caps.getD f.st.toNat 0 ∧ 0 < m.left ∧ zg2 caps m f = ze0 (note { m with left := m.left - 1, held := m.held.set f.st.toNat 0, swept := zm3 m.swept f.st.toNat 1 } [⟨2, f.item, f.st⟩, ⟨1, f.item, f.st⟩]) f) ∨
    (0 ≤ f.st ∧ ¬ m.held.getD f.st.toNat 0 < caps.getD f.st.toNat 0 ∧ ¬ 0 < m.left ∧ zg2 caps m f = note { m with over := m.over ++ [f.item] } [⟨3, f.item, f.st⟩]) := by
  unfold zg2
  by_cases h1 : f.st < 0
  · exact .inl ⟨h1, by rw [if_pos h1]⟩
  · by_cases h2 : m.held.getD f.st.toNat 0 < caps.getD f.st.toNat 0
    · exact .inr (.inl ⟨by omega, h2, by rw [if_neg h1, if_pos h2]⟩)
    · by_cases h3 : 0 < m.left
      · exact .inr (.inr (.inl ⟨by omega, h2, h3, by rw [if_neg h1, if_neg h2, if_pos h3]⟩))
      · exact .inr (.inr (.inr ⟨by omega, h2, h3, by rw [if_neg h1, if_neg h2, if_neg h3]⟩))
structure Inv (caps : List Int) (s : Int) (m : M) : Prop extends Sz caps.length m where
  len : ∀ k, k < caps.length → ((m.stackers.getD k []).length : Int) = caps.getD k 0 * m.swept.getD k 0 + m.held.getD k 0
  held : ∀ k, k < caps.length → 0 ≤ m.held.getD k 0 ∧ m.held.getD k 0 ≤ caps.getD k 0
  swept : ∀ k, k < caps.length → 0 ≤ m.swept.getD k 0
  more : ∀ k, k < caps.length → 0 < m.swept.getD k 0 → 1 ≤ m.held.getD k 0
  left : m.left = s - m.swept.sum
  left0 : 0 ≤ m.left
  over : m.over ≠ [] → m.left = 0
theorem Inv.new {caps : List Int} {s : Int} (hc : ∀ c ∈ caps, 1 ≤ c) (hs : 0 ≤ s) : Inv caps s (M.new caps.length s) := by
  have hz : ∀ k, k < caps.length → (List.replicate caps.length (0 : Int)).getD k 0 = 0 := fun k h => by simp [h]
  have hcap : ∀ k, k < caps.length → 1 ≤ caps.getD k 0 := fun k h => by
    have := hc _ (List.getElem_mem h)
    simpa [h] using this
  refine ⟨Sz.new _ _, ?_, ?_, ?_, ?_, ?_, hs, ?_⟩
  · intro k hk
    simp only [M.new, hz k hk]
    simp [hk]
  · intro k hk
    simp only [M.new, hz k hk]
    have := hcap k hk
    omega
  · intro k hk; simp only [M.new, hz k hk]; omega
  · intro k hk; simp only [M.new, hz k hk]; omega
  · simp only [M.new]
    have : (List.replicate caps.length (0 : Int)).sum = 0 := by
      induction caps.length with
      | zero => rfl
      | succ n ih => simp [List.replicate_succ, ih]
    omega
  · intro h; exact absurd rfl h
theorem Inv.take {caps : List Int} {s : Int} {m : M} {f : Fd} (h : Inv caps s m) (hc : ∀ c ∈ caps, 1 ≤ c) (hf : f.st < caps.length) : Inv caps s (zg2 caps m f) := by
  have hsz := h.toSz.take caps f
  have e1 := h.st
  have e2 := h.sw
  have e3 := h.hd
  rcases zu1 caps m f with ⟨_, e⟩ | ⟨h0, h1, e⟩ | ⟨h0, h1, h2, e⟩ | ⟨h0, h1, h2, e⟩
  · rw [e] at hsz ⊢
    exact ⟨hsz, h.len, h.held, h.swept, h.more, h.left, h.left0, h.over⟩
  · rw [e] at hsz ⊢
    have hk : f.st.toNat < caps.length := by omega
    refine ⟨hsz, fun k hk' => ?_, fun k hk' => ?_, h.swept, fun k hk' hp => ?_, h.left, h.left0, h.over⟩
    · have := h.len k hk'
      simp only [ze0, note, zp6, zh7, e1, e3]
      by_cases g : f.st.toNat = k
      · subst g; simp only [hk', and_self, if_true, true_and, List.length_append, List.length_cons, List.length_nil]; omega
      · simp only [g, false_and, if_false, List.append_nil, Int.add_zero]; omega
    · have := h.held k hk'
      simp only [ze0, note, zh7, e3]
      by_cases g : f.st.toNat = k
      · subst g; simp only [hk', and_self, if_true, true_and, List.length_append, List.length_cons, List.length_nil]; omega
      · simp only [g, false_and, if_false, List.append_nil, Int.add_zero]; omega
    · have := h.more k hk' hp
      have := h.held k hk'
      simp only [ze0, note, zh7, e3]
      split <;> omega
  · rw [e] at hsz ⊢
    have hk : f.st.toNat < caps.length := by omega
    have hcap : 1 ≤ caps.getD f.st.toNat 0 := by
      have := hc _ (List.getElem_mem hk)
      simpa [hk] using this
    refine ⟨hsz, fun k hk' => ?_, fun k hk' => ?_, fun k hk' => ?_, fun k hk' hp => ?_, ?_, ?_, ?_⟩
    · have := h.len k hk'
      simp only [ze0, note, zp6, zh7, e1, e2, e3, List.length_set, zt2]
      by_cases g : f.st.toNat = k
      · subst g
        have hh := h.held _ hk'
        have hq : m.held.getD f.st.toNat 0 = caps.getD f.st.toNat 0 := by omega
        simp only [hk', and_self, if_true, List.length_append, List.length_cons, List.length_nil, true_and, Int.mul_add]
        rw [hq] at this
        omega
      · simp only [g, false_and, if_false, List.append_nil, Int.add_zero]; omega
    · have := h.held k hk'
      simp only [ze0, note, zh7, e3, List.length_set, zt2]
      by_cases g : f.st.toNat = k
      · subst g; simp only [hk', and_self, if_true, true_and, List.length_append, List.length_cons, List.length_nil]; omega
      · simp only [g, false_and, if_false, List.append_nil, Int.add_zero]; omega
    · have := h.swept k hk'
      simp only [ze0, note, zh7, e2]
      split <;> omega
    · simp only [ze0, note, zh7, e2, e3, List.length_set, zt2] at hp ⊢
      by_cases g : f.st.toNat = k
      · subst g; simp only [hk', and_self, if_true, true_and]; omega
      · simp only [g, false_and, if_false, Int.add_zero] at hp ⊢; exact h.more k hk' hp
    · have := h.left
      simp only [ze0, note]
      rw [yt0 _ _ _ (by omega)]
      omega
    · simp only [ze0, note]; omega
    · intro ho
      have := h.over ho
      simp only [ze0, note]; omega
  · rw [e] at hsz ⊢
    exact ⟨hsz, h.len, h.held, h.swept, h.more, h.left, h.left0, fun _ => by have := h.left0; simp only [note]; omega⟩
theorem yr4 {caps : List Int} {s : Int} (hc : ∀ c ∈ caps, 1 ≤ c) (hs : 0 ≤ s) {l : List Fd} (hl : ∀ f ∈ l, f.st < caps.length) : Inv caps s (za2 caps s l) := by
  unfold za2
  have : ∀ (l : List Fd) (m : M), (∀ f ∈ l, f.st < caps.length) → Inv caps s m → Inv caps s (l.foldl (zg2 caps) m) := by
    intro l
    induction l with
    | nil => exact fun m _ h => h
    | cons f r ih => exact fun m hl h => ih _ (fun x hx => hl x (List.mem_cons_of_mem _ hx)) (h.take hc (hl f List.mem_cons_self))
  exact this l _ hl (Inv.new hc hs)
structure Ext (is : List Int) (m m' : M) : Prop where
  st : ∀ k, ∃ t, m'.stackers.getD k [] = m.stackers.getD k [] ++ t ∧ t.Sublist is
  ov : ∃ t, m'.over = m.over ++ t ∧ t.Sublist is
  rj : ∃ t, m'.rej = m.rej ++ t ∧ t.Sublist is
  ev : ∃ t, m'.evs = m.evs ++ t
theorem Ext.refl (m : M) : Ext [] m m := ⟨fun k => ⟨[], by simp, List.Sublist.refl _⟩, ⟨[], by simp, List.Sublist.refl _⟩, ⟨[], by simp, List.Sublist.refl _⟩, ⟨[], by simp⟩⟩
theorem Ext.trans {a b : List Int} {m m' m'' : M} (h : Ext a m m') (h' : Ext b m' m'') : Ext (a ++ b) m m'' := by
  refine ⟨fun k => ?_, ?_, ?_, ?_⟩
  · obtain ⟨t, e, s⟩ := h.st k
    obtain ⟨t', e', s'⟩ := h'.st k
    exact ⟨t ++ t', by rw [e', e, List.append_assoc], s.append s'⟩
  · obtain ⟨t, e, s⟩ := h.ov
    obtain ⟨t', e', s'⟩ := h'.ov
    exact ⟨t ++ t', by rw [e', e, List.append_assoc], s.append s'⟩
  · obtain ⟨t, e, s⟩ := h.rj
    obtain ⟨t', e', s'⟩ := h'.rj
    exact ⟨t ++ t', by rw [e', e, List.append_assoc], s.append s'⟩
  · obtain ⟨t, e⟩ := h.ev
    obtain ⟨t', e'⟩ := h'.ev
    exact ⟨t ++ t', by rw [e', e, List.append_assoc]⟩
theorem Ext.take (caps : List Int) (m : M) (f : Fd) : Ext [f.item] m (zg2 caps m f) := by
  have s0 : ∀ x : Int, List.Sublist [] [x] := fun x => List.nil_sublist _
  have hput : ∀ k, ∃ t, (putAt m.stackers f.st.toNat f.item).getD k [] = m.stackers.getD k [] ++ t ∧ t.Sublist [f.item] := fun k => by
    rw [zp6]
    refine ⟨_, rfl, ?_⟩
    split
    · exact List.Sublist.refl _
    · exact s0 _
  rcases zu1 caps m f with ⟨_, e⟩ | ⟨_, _, e⟩ | ⟨_, _, _, e⟩ | ⟨_, _, _, e⟩ <;> rw [e]
  · exact ⟨fun k => ⟨[], by simp [note], s0 _⟩, ⟨[], by simp [note], s0 _⟩, ⟨_, rfl, List.Sublist.refl _⟩, ⟨_, rfl⟩⟩
  · exact ⟨hput, ⟨[], by simp [note, ze0], s0 _⟩, ⟨[], by simp [note, ze0], s0 _⟩, ⟨_, rfl⟩⟩
  · exact ⟨hput, ⟨[], by simp [note, ze0], s0 _⟩, ⟨[], by simp [note, ze0], s0 _⟩, ⟨_, rfl⟩⟩
  · exact ⟨fun k => ⟨[], by simp [note], s0 _⟩, ⟨_, rfl, List.Sublist.refl _⟩, ⟨[], by simp [note], s0 _⟩, ⟨_, rfl⟩⟩
def zM0 (m : M) : List Int := m.stackers.flatten ++ (m.over ++ m.rej)
theorem zh0 {caps : List Int} {m : M} {f : Fd} (h : Sz caps.length m) (hf : f.st < caps.length) : (zM0 (zg2 caps m f)).Perm (zM0 m ++ [f.item]) := by
  have e1 := h.st
  have hput : 0 ≤ f.st → ((putAt m.stackers f.st.toNat f.item).flatten ++ (m.over ++ m.rej)).Perm (m.stackers.flatten ++ (m.over ++ m.rej) ++ [f.item]) := fun h0 => by
    refine (List.Perm.append_right _ (zT9 m.stackers f.st.toNat f.item (by omega))).trans ?_
    rw [List.append_assoc, List.append_assoc]
    exact List.Perm.append_left _ List.perm_append_comm
  rcases zu1 caps m f with ⟨_, e⟩ | ⟨h0, _, e⟩ | ⟨h0, _, _, e⟩ | ⟨_, _, _, e⟩ <;> rw [e]
  · simp only [zM0, note, List.append_assoc]
    exact List.Perm.refl _
  · exact hput h0
  · exact hput h0
  · simp only [zM0, note, List.append_assoc]
    exact List.Perm.append_left _ (List.Perm.append_left _ List.perm_append_comm)
theorem yr3 {caps : List Int} {s : Int} {l : List Fd} (hl : ∀ f ∈ l, f.st < caps.length) : (zM0 (za2 caps s l)).Perm (l.map Fd.item) := by
  have : ∀ n, n ≤ l.length → (zM0 (za2 caps s (l.take n))).Perm ((l.take n).map Fd.item) := by
    intro n
    induction n with
    | zero =>
      intro _
      have hz : ∀ n : Nat, (List.replicate n ([] : List Int)).flatten = [] := fun n => by simp
      simp [za2, zM0, M.new, hz]
    | succ n ih =>
      intro hn
      have hx := List.getElem?_eq_getElem (show n < l.length by omega)
      rw [List.take_add_one, hx]
      simp only [Option.toList, zz2, List.map_append, List.map_cons, List.map_nil]
      exact (zh0 (zI2 _ _ _) (hl _ (List.getElem_mem _))).trans (List.Perm.append_right _ (ih (by omega)))
  have := this l.length (Nat.le_refl _)
  rwa [List.take_length] at this
end Go.Sx.Srt
namespace Go.Sx.Srt
open Go.Sx.Seq (zm3 zl8)
structure Bd (k : Nat) (m : M) : Prop where
  ov : m.over.length ≤ k
  rj : m.rej.length ≤ k
  ev : m.evs.length ≤ 2 * k
  st : ∀ j, (m.stackers.getD j []).length ≤ k
  hd : ∀ j, 0 ≤ m.held.getD j 0 ∧ m.held.getD j 0 ≤ k
  sw : ∀ j, 0 ≤ m.swept.getD j 0 ∧ m.swept.getD j 0 ≤ k
  lf : -9223372036854775808 ≤ m.left ∧ m.left ≤ 9223372036854775807
theorem zQ3 {α : Type} (n j : Nat) (a : α) : (List.replicate n a).getD j a = a := by
  by_cases h : j < n <;> simp [h]
theorem Bd.new (n : Nat) {s : Int} (hs : -9223372036854775808 ≤ s ∧ s ≤ 9223372036854775807) : Bd 0 (M.new n s) :=
  ⟨Nat.le_refl _, Nat.le_refl _, Nat.le_refl _, fun j => by simp only [M.new, zQ3]; simp, fun j => by simp only [M.new, zQ3]; omega, fun j => by simp only [M.new, zQ3]; omega, hs⟩
theorem Bd.take {k : Nat} {m : M} (h : Bd k m) (caps : List Int) (f : Fd) : Bd (k + 1) (zg2 caps m f) := by
  obtain ⟨h1, h2, h3, h4, h5, h6, h7⟩ := h
  have hp : ∀ j, ((putAt m.stackers f.st.toNat f.item).getD j []).length ≤ k + 1 := fun j => by
    have := h4 j
    rw [zp6, List.length_append]; split <;> simp only [List.length_cons, List.length_nil] <;> omega
  have ha : ∀ (l : List Int), (∀ j, 0 ≤ l.getD j 0 ∧ l.getD j 0 ≤ k) → ∀ j, 0 ≤ (zm3 l f.st.toNat 1).getD j 0 ∧ (zm3 l f.st.toNat 1).getD j 0 ≤ ((k + 1 : Nat) : Int) := fun l hl j => by
    have := hl j
    rw [zh7]; split <;> omega
  have hs : ∀ j, 0 ≤ (m.held.set f.st.toNat 0).getD j 0 ∧ (m.held.set f.st.toNat 0).getD j 0 ≤ k := fun j => by
    have := h5 j
    rw [zt2]; split <;> omega
  rcases zu1 caps m f with ⟨_, e⟩ | ⟨_, _, e⟩ | ⟨_, _, _, e⟩ | ⟨_, _, _, e⟩ <;> rw [e]
  · exact ⟨by simp [note]; omega, by simp [note]; omega, by simp [note]; omega, fun j => by have := h4 j; simp only [note]; omega, fun j => by have := h5 j; simp only [note]; omega, fun j => by have := h6 j; simp only [note]; omega, h7⟩
  · exact ⟨by simp [note, ze0]; omega, by simp [note, ze0]; omega, by simp [note, ze0]; omega, hp, ha _ h5, fun j => by have := h6 j; simp only [note, ze0]; omega, h7⟩
  · exact ⟨by simp [note, ze0]; omega, by simp [note, ze0]; omega, by simp [note, ze0]; omega, hp, ha _ hs, ha _ h6, by simp only [note, ze0]; omega⟩
  · exact ⟨by simp [note]; omega, by simp [note]; omega, by simp [note]; omega, fun j => by have := h4 j; simp only [note]; omega, fun j => by have := h5 j; simp only [note]; omega, fun j => by have := h6 j; simp only [note]; omega, h7⟩
theorem yy0 (caps : List Int) {s : Int} (hs : -9223372036854775808 ≤ s ∧ s ≤ 9223372036854775807) : ∀ l : List Fd, Bd l.length (za2 caps s l) := by
  have : ∀ (l : List Fd) (k : Nat) (m : M), Bd k m → Bd (k + l.length) (l.foldl (zg2 caps) m) := by
    intro l
    induction l with
    | nil => exact fun k m h => h
    | cons f r ih =>
      intro k m h
      have := ih (k + 1) _ (h.take caps f)
      simp only [List.length_cons, List.foldl_cons]
      rwa [show k + (r.length + 1) = k + 1 + r.length from by omega]
  intro l
  have := this l 0 _ (Bd.new caps.length hs)
  rwa [Nat.zero_add] at this
end Go.Sx.Srt
namespace Go.Proofs.Ytdahckhlfldkkaa
open Go Go.Sx Go.RowKit
section
variable {P : Program} {n : Nat} {D : List Deferred} {w0 : World} {F : List (Nat × Value)} {L L0 : List Ent} {Q : Exit → Act → World → Prop} {r : Option Nat} {ops : Array Oper}
variable {d : Tmp} {ty : TypeId} {pos : String} {af : Array Edge} {rest : List Oper}
theorem zC0 {α : Type} {enc : α → List Value} {t e : TypeId} {k kk m o : Nat} {x y : Operand} {b p : Nat} {v : Value} {xs ys : List α} {z : α} (z' : α) (hys : xs.set m z' = ys) {s vs : List Value} {L' : List Ent} (hS : TS P t kk) (hx : ev F x = some (.pointer (some ⟨b, p, none⟩))) (hy : ev F y = some v)
    (hat : At L b (Ce (xs.flatMap enc ++ s) e)) (hz : xs[m]? = some z) (henc : ∀ x, (enc x).length = k) (hp : p = m * k + o) (hvs : v.cells = vs.toArray) (hlen : vs.length = kk) (h1 : ∀ u ∈ vs, u.oneCell' = true) (ho : o + vs.length ≤ k)
    (he : enc z' = (enc z).take o ++ vs ++ (enc z).drop (o + vs.length)) (hu : Upd L b (Ce (xs.flatMap enc ++ s) e) (Ce (ys.flatMap enc ++ s) e) L')
    (h : St n D w0 F L' (WL r P ops Q rest)) :
    St n D w0 F L (WL r P ops Q (⟨none, .store t x y, ty, pos, af, none⟩ :: rest)) := by
  subst hys
  exact yx5 z' hS hx hy hat hz henc hp hvs hlen h1 ho he hu h
end
attribute [local irreducible] WL WC WQ WR St Exit.then Exit.inBlock Exit.noGoto bodyPost roundPost zc1 YR RG BM Calls B zc7 ze3
def zp1 (e : Srt.Ev) : List Value := [.int .u8 e.kind, .int .i64 e.item, .int .i64 e.st]
theorem ze4 : ∀ x, (zp1 x).length = 3 := fun _ => rfl
theorem zw3 : ∀ x, (zp1 x).all (·.oneCell') = true := fun _ => rfl
def zo0 (f : Srt.Fd) : List Value := [.int .i64 f.item, .int .i64 f.st]
theorem zl0 : ∀ x, (zo0 x).length = 2 := fun _ => rfl
theorem zG8 : ∀ x, (zo0 x).all (·.oneCell') = true := fun _ => rfl
def mach (n b : Nat) (cv : Value) (m : Srt.M) (G : List Ent) : Prop := ∃ bs bw bh ao co ar cr ae ce ss ML NO NR NE,
  G = ⟨b, Ce [slc bs n, slc bw n, .slice ao m.over.length co, .slice ar m.rej.length cr, .slice ae m.evs.length ce, cv, slc bh n, .int .i64 m.left] 192, true⟩ :: ⟨bs, Ce (ss.flatMap encS ++ []) 44, true⟩ :: ⟨bw, Ce (m.swept.flatMap encI ++ []) 3, true⟩ :: ⟨bh, Ce (m.held.flatMap encI ++ []) 3, true⟩ :: (ML ++ (NO ++ (NR ++ (NE ++ [])))) ∧
  LL 3 1 encI ss m.stackers ML ∧ OW 3 1 encI (.slice ao m.over.length co) m.over NO ∧ OW 3 1 encI (.slice ar m.rej.length cr) m.rej NR ∧ OW 173 3 zp1 (.slice ae m.evs.length ce) m.evs NE ∧ Srt.Sz n m
theorem mach.own {n b : Nat} {cv : Value} {m : Srt.M} {G : List Ent} (h : mach n b cv m G) : ∀ x ∈ G, x.own = true := by
  obtain ⟨bs, bw, bh, ao, co, ar, cr, ae, ce, ss, ML, NO, NR, NE, rfl, h1, h2, h3, h4, _⟩ := h
  exact show AO _ from .cons (.cons (.cons (.cons (.app h1.own (.app h2.own (.app h3.own (.app h4.own .nil)))))))
theorem yi2 (n : Nat) : (List.replicate n [Value.slice none 0 0]).flatten = (List.replicate n ((none, 0, 0) : SD)).flatMap encS ++ [] := by
  rw [List.append_nil, List.flatMap_def, List.map_replicate]
  rfl
theorem yt7 {α : Type} {E : TypeId} {k : Nat} {enc : α → List Value} : ∀ n : Nat, LL E k enc (List.replicate n ((none, 0, 0) : SD)) (List.replicate n []) []
  | 0 => LL.nil
  | n + 1 => by
    rw [List.replicate_succ, List.replicate_succ]
    exact LL.cons (s := (none, 0, 0)) (N := []) OW.nil (yt7 n)
set_option maxHeartbeats 4000000 in
theorem yq8 {cv : Value} {caps : List Int} {s : Int} (w : World) (h : SV w 1 encI cv caps) (hn : caps.length ≤ 64) : Calls Try.prog 69 #[cv, .int .i64 s] w fun e w' => ∃ v N, e = .returned v ∧ (∃ b, v = ptr b ∧ mach caps.length b cv (Srt.M.new caps.length s) N ∧ ∀ x ∈ N, x.own = true) ∧ Rep w w' N ∧ ∀ x ∈ N, x.own = true := by
  obtain ⟨a0, ca, rfl, hca, hop⟩ := h.open
  refine za8 Try.func69 rfl Try.ntmps69 rfl (Rep.start w) ?_
  repeat' (first | ((first | apply w9 | apply y8); exact rfl; exact rfl) | (apply o9; infer_instance; exact rfl; exact rfl) | ((first | apply s9 | apply x9 | apply z8 | apply s7 | apply s8 | apply w4 | apply z9 | apply w5)) | ((first | apply w6 | apply z6 | apply z0 | apply p5 | apply y0 | apply z7)) | ((apply p6 (id := 2) []); kernel_rfl; kernel_rfl) | (apply za6; try simp only [za9, List.cons_append, List.nil_append]) | ((first | apply i9 | apply n9); exact rfl; exact rfl) | (apply zx1; first | refine zD2 (h := ?_)) | (apply yL2; exact rfl; exact rfl; exact rfl; intro _) | (apply zT7; refine yc0 (h := fun _ => ?_)))
  rename_i bs bw bh b
  simp only [yi2, yt5] at *
  apply p8; apply zb0 Try.results69; exact rV_; intro w' hw
  have hm : mach caps.length b (.slice a0 caps.length ca) (Srt.M.new caps.length s) (⟨b, Ce [slc bs caps.length, slc bw caps.length, .slice none 0 0, .slice none 0 0, .slice none 0 0, .slice a0 caps.length ca, slc bh caps.length, .int .i64 s] 192, true⟩ :: ⟨bs, Ce ((List.replicate caps.length ((none, 0, 0) : SD)).flatMap encS ++ []) 44, true⟩ :: ⟨bw, Ce ((List.replicate caps.length (0 : Int)).flatMap encI ++ []) 3, true⟩ :: ⟨bh, Ce ((List.replicate caps.length (0 : Int)).flatMap encI ++ []) 3, true⟩ :: ([] ++ ([] ++ ([] ++ ([] ++ []))))) :=
    ⟨bs, bw, bh, none, 0, none, 0, none, 0, _, [], [], [], [], rfl, yt7 _, OW.nil, OW.nil, OW.nil, Srt.Sz.new _ _⟩
  exact ⟨_, _, rfl, ⟨b, rfl, hm, hm.own⟩, hw.sub (by exact hS_), hm.own⟩
set_option maxHeartbeats 4000000 in
theorem yk0 {w0 w : World} {L0 NE : List Ent} {b ce : Nat} {ae : Option Addr} {x0 x1 x2 x3 x5 x6 x7 v : Value} {es ys : List Srt.Ev} (hO : OW 173 3 zp1 (.slice ae es.length ce) es NE)
    (hw : Rep w0 w (⟨b, Ce [x0, x1, x2, x3, .slice ae es.length ce, x5, x6, x7] 192, true⟩ :: (NE ++ L0))) (hsv : ∀ w', Rep w0 w' (⟨b, Ce [x0, x1, x2, x3, .slice ae es.length ce, x5, x6, x7] 192, true⟩ :: (NE ++ L0)) → SV w' 3 zp1 v ys) (hb : es.length ≤ 100000 ∧ ys.length ≤ 2) :
    Calls Try.prog 73 #[ptr b, v] w fun e w' => ∃ r G', e = .returned r ∧ (r = .tuple #[] ∧ ∃ a' c' N', G' = ⟨b, Ce [x0, x1, x2, x3, .slice a' (es ++ ys).length c', x5, x6, x7] 192, true⟩ :: N' ∧ OW 173 3 zp1 (.slice a' (es ++ ys).length c') (es ++ ys) N') ∧ Rep w0 w' (G' ++ L0) := by
  have hNE := hO.own
  refine zj3 Try.func73 rfl Try.ntmps73 rfl (hw) ?_
  repeat' (first | (apply zc4 (enc := zp1); infer_instance; infer_instance; infer_instance; exact rfl; exact ze4; exact zw3; exact rfl; exact rfl; exact rfl; assumption; exact rL_; (exact fun w hw => (hsv w hw)); (first | decide | (constructor <;> (try simp only [List.length_cons, List.length_nil]) <;> omega) | (constructor <;> simp <;> omega)); intro _ _ _ _) | ((first | apply w9 | apply x8 | apply n0); exact rfl; exact rfl) | (apply w7; first | refine u9 (h := ?_) | refine y9 (h := ?_) | refine w8 (h := ?_) | refine q6 (h := ?_) | refine q0 (h := ?_)) | (apply q7; first | refine q8 (h := ?_) | refine q9 (h := ?_)) | ((first | apply s9 | apply x9 | apply z8 | apply s7 | apply s8 | apply w4 | apply z9 | apply w5)))
  rename_i a' c' N' hO'
  apply ya6; apply yk7 Try.results73; intro w' hw
  exact ⟨_, _, rfl, ⟨rfl, a', c', N', rfl, hO'⟩, hw.sub (by simp only [List.cons_append]; exact hS_)⟩
theorem ya1 {n : Nat} {D : List Deferred} {w0 : World} {F : List (Nat × Value)} {L L1 L2 NE : List Ent} {Q : Exit → Act → World → Prop} {r : Option Nat} {ops : Array Oper} {d : Tmp} {ty : TypeId} {pos : String} {af : Array Edge} {rest : List Oper} {x y : Operand} {ats : Array TypeId}
    {b ce : Nat} {ae : Option Addr} {x0 x1 x2 x3 x5 x6 x7 v : Value} {es ys : List Srt.Ev} (hx : ev F x = some (ptr b)) (hy : ev F y = some v) (hd : Nat.ble (d + 1) n = true)
    (hr : Rem L ⟨b, Ce [x0, x1, x2, x3, .slice ae es.length ce, x5, x6, x7] 192, true⟩ L1) (hO : OW 173 3 zp1 (.slice ae es.length ce) es NE) (hr2 : RemL L1 NE L2) (hsv : ∀ w, Rep w0 w L → SV w 3 zp1 v ys) (hb : es.length ≤ 100000 ∧ ys.length ≤ 2)
    (h : ∀ a' c' N', OW 173 3 zp1 (.slice a' (es ++ ys).length c') (es ++ ys) N' → St n D w0 ((d, .tuple #[]) :: F) (⟨b, Ce [x0, x1, x2, x3, .slice a' (es ++ ys).length c', x5, x6, x7] 192, true⟩ :: (N' ++ L2)) (WL r Try.prog ops Q rest)) :
    St n D w0 F L (WL r Try.prog ops Q (⟨some d, .call ⟨.value (.func 73), #[x, y], ats⟩, ty, pos, af, none⟩ :: rest)) := by
  have hp : RemL L (⟨b, Ce [x0, x1, x2, x3, .slice ae es.length ce, x5, x6, x7] 192, true⟩ :: NE) L2 := RemL.cons hr hr2
  refine zo6 (f := 73) (x := .func 73) (caps := #[]) (xs := [x, y]) (vs := [ptr b, v]) (L0 := L2) (G := ⟨b, Ce [x0, x1, x2, x3, .slice ae es.length ce, x5, x6, x7] 192, true⟩ :: NE)
    (Φ := fun v G' => v = .tuple #[] ∧ ∃ a' c' N', G' = ⟨b, Ce [x0, x1, x2, x3, .slice a' (es ++ ys).length c', x5, x6, x7] 192, true⟩ :: N' ∧ OW 173 3 zp1 (.slice a' (es ++ ys).length c') (es ++ ys) N') rfl hd ?_ hp ?_ ?_
  · exact Evs.cons hx (Evs.cons hy Evs.nil)
  · intro w hw
    rw [Array.append_empty]
    exact yk0 hO hw (fun w' hw' => hsv w' (hw'.perm (List.Perm.symm hp))) hb
  · rintro v G' ⟨rfl, a', c', N', rfl, hO'⟩
    exact h a' c' N' hO'
end Go.Proofs.Ytdahckhlfldkkaa
namespace Go.Proofs.Ytdahckhlfldkkaa
open Go Go.Sx Go.RowKit
attribute [local irreducible] WL WC WQ WR St Exit.then Exit.inBlock Exit.noGoto bodyPost roundPost zc1 YR RG BM Calls B zc7 ze3
set_option maxHeartbeats 16000000 in
set_option maxRecDepth 100000 in
theorem ym1 {w0 w : World} {L0 G : List Ent} {b j : Nat} {cv : Value} {caps : List Int} {m : Srt.M} {x st : Int} (hcap : SV w0 1 encI cv caps) (hL0 : ∀ x ∈ L0, x.own = true) (hw : Rep w0 w (G ++ L0)) (hm : mach caps.length b cv m G) (hb : Srt.Bd j m) (hj : j ≤ 10000) (hf : st < caps.length) :
    Calls Try.prog 70 #[ptr b, .agg #[.int .i64 x, .int .i64 st]] w fun e w' => ∃ r G', e = .returned r ∧ (r = .tuple #[] ∧ mach caps.length b cv (Srt.zg2 caps m ⟨x, st⟩) G') ∧ Rep w0 w' (G' ++ L0) := by
  obtain ⟨bs, bw, bh, ao, co, ar, cr, ae, ce, ss, ML, NO, NR, NE, rfl, hS, hO, hR, hE, hz⟩ := hm
  obtain ⟨a0, ca, rfl, hca, hop⟩ := hcap.open
  have h1 := hS.own
  have h2 := hO.own
  have h3 := hR.own
  have h4 := hE.own
  obtain ⟨zs, zw, zh⟩ := hz
  obtain ⟨b1, b2, b3, b4, b5, b6, b7⟩ := hb
  rw [← List.append_nil L0] at hw ⊢
  simp only [List.cons_append, List.append_assoc, List.nil_append] at hw
  by_cases hneg : st < 0
  · have e : Srt.zg2 caps m ⟨x, st⟩ = ⟨m.stackers, m.swept, m.over, m.rej ++ [x], m.evs ++ [⟨4, x, -1⟩], m.held, m.left⟩ := by unfold Srt.zg2; rw [if_pos hneg]; rfl
    rw [e]
    refine zj3 Try.func70 rfl Try.ntmps70 rfl (hw) ?_
    repeat' (first | (apply zc4 (enc := encI) (ys := [(x)]); infer_instance; infer_instance; infer_instance; exact rfl; exact j8; exact zg4; exact rfl; exact rfl; exact rfl; assumption; exact rL_; (exact fun w hw => SV.lit [(x)] j8 hw (by exact aT_) rfl rfl (by decide)); (first | decide | (constructor <;> (try simp only [List.length_cons, List.length_nil]) <;> omega) | (constructor <;> simp <;> omega)); intro a1 c1 N1 hO1; have oN1 := hO1.own) | (apply ya1; exact rfl; exact rfl; exact rfl; (focus (repeat (first | exact Rem.hd | apply Rem.tl | apply Rem.right))); assumption; exact rL_; (exact fun w hw => SV.lit [(⟨4, x, -1⟩ : Srt.Ev)] ze4 hw (by exact aT_) rfl rfl (by decide)); exact ⟨by omega, by simp⟩; intro a9 c9 N9 hO9; have oN9 := hO9.own) | ((first | apply w9 | apply y8 | apply x8 | apply n0); exact rfl; exact rfl) | (apply w7; first | refine u9 (h := ?_) | refine y9 (h := ?_) | refine w8 (h := ?_) | refine q6 (h := ?_) | refine q0 (h := ?_)) | ((first | apply p3 | apply o8); exact rfl; exact rfl; exact rfl) | (apply zc5; exact rfl; exact rfl; exact rfl; intro _) | (apply q7; first | refine q8 (h := ?_) | refine q9 (h := ?_)) | (apply g7; first | refine a8 (h := ?_)) | (apply m9; refine l9 (h := fun _ => ?_)) | ((first | apply s9 | apply x9 | apply z8 | apply s7 | apply s8 | apply w4 | apply z9 | apply w5)) | (apply v8; exact rfl; exact tT_) | ((first | apply w6 | apply z6 | apply z0 | apply p5 | apply y0 | apply z7)) | ((apply p6 (id := 1) []); kernel_rfl; kernel_rfl) | (apply za6; try simp only [za9, List.cons_append, List.nil_append]) | ((first | apply i9 | apply n9 | apply m5); exact rfl; exact rfl) | (apply m0; first | refine k8 (h := ?_) | refine p7 (h := ?_) | refine m6 (h := ?_) | refine d8 (h := ?_) | refine d7 (h := ?_)))
    apply p8; apply yk7 Try.results70; intro w' hw
    exact ⟨_, _, rfl, ⟨rfl, bs, bw, bh, ao, co, a1, c1, a9, c9, ss, ML, NO, N1, N9, rfl, hS, hO, hO1, hO9, ⟨zs, zw, zh⟩⟩, hw.sub (by simp only [List.cons_append, List.append_assoc, List.nil_append]; exact hS_)⟩
  obtain ⟨k, rfl⟩ := Int.eq_ofNat_of_zero_le (show 0 ≤ st by omega)
  have hkn : k < caps.length := by omega
  obtain ⟨c, hc⟩ : ∃ c, caps[k]? = some c := ⟨_, List.getElem?_eq_getElem hkn⟩
  obtain ⟨h, hh⟩ : ∃ h, m.held[k]? = some h := ⟨_, List.getElem?_eq_getElem (by omega)⟩
  obtain ⟨s, hs⟩ : ∃ s, m.swept[k]? = some s := ⟨_, List.getElem?_eq_getElem (by omega)⟩
  obtain ⟨xs, hxs⟩ : ∃ xs, m.stackers[k]? = some xs := ⟨_, List.getElem?_eq_getElem (by omega)⟩
  have dc : caps.getD k 0 = c := by simp [hc]
  have dh : m.held.getD k 0 = h := by simp [hh]
  have ds : m.swept.getD k 0 = s := by simp [hs]
  have dx : m.stackers.getD k [] = xs := by simp [hxs]
  have bh5 := b5 k
  have bs6 := b6 k
  have bx4 := b4 k
  rw [dh] at bh5
  rw [ds] at bs6
  rw [dx] at bx4
  have hhl : k < m.held.length := by omega
  have hsl : k < m.swept.length := by omega
  obtain ⟨bc, off, cc, ec, fz, rfl, hk, hp⟩ := hop (by omega)
  have g0 := hp.one hc rfl
  have g1 := (Pat.flat j8 m.held []).one hh rfl
  have g2 := (Pat.flat j8 m.swept []).one hs rfl
  obtain ⟨⟨sa, sn, sc⟩, N, M1, M2, q1, q2, rfl, q3, q4, q5⟩ := hS.at hxs
  obtain ⟨_, _, eq2, hcq, _⟩ := q2.open
  cases eq2
  have hN := q2.own
  have g3 : (ss.flatMap encS ++ ([] : List Value)).toArray[0 + k * 1]? = some (.slice sa xs.length sc) := (Pat.flat zl1 ss []).one q1 rfl
  simp only [List.append_assoc] at hw
  by_cases hlt : h < c
  · obtain ⟨H1, hH1⟩ : ∃ H1, m.held.set k (h + 1) = H1 := ⟨_, rfl⟩
    have e : Srt.zg2 caps m ⟨x, k⟩ = ⟨m.stackers.set k (xs ++ [x]), m.swept, m.over, m.rej, m.evs ++ [⟨1, x, k⟩], H1, m.left⟩ := by
      unfold Srt.zg2
      simp only [Int.toNat_natCast, dc, dh]
      rw [if_neg (by omega), if_pos hlt]
      simp only [Srt.ze0, Srt.note, Srt.putAt, Seq.zm3, Int.toNat_natCast, dx, dh, hH1]
    rw [e]
    refine zj3 Try.func70 rfl Try.ntmps70 rfl (hw) ?_
    repeat' (first | (apply ya1; exact rfl; exact rfl; exact rfl; (focus (repeat (first | exact Rem.hd | apply Rem.tl | apply Rem.right))); assumption; exact rL_; (exact fun w hw => SV.lit [(⟨1, x, k⟩ : Srt.Ev)] ze4 hw (by exact aT_) rfl rfl (by decide)); exact ⟨by omega, by simp⟩; intro a9 c9 N9 hO9; have oN9 := hO9.own) | ((apply zF5 (id := 15) (yH3 16 N hN [(16, yH8 3 1 encI (xs ++ [x]))])); kernel_rfl; kernel_rfl; exact rfl; exact rL_) | ((apply yy2 (enc := encI) (xs := xs) (ys := [x]) (H := N)); infer_instance; infer_instance; infer_instance; exact rfl; exact j8; exact zg4; exact rfl; exact rfl; exact rfl; exact rfl; exact sJ_; exact rfl; exact q2; (exact fun w hw => SV.lit [x] j8 hw (by exact aT_) rfl rfl (by decide)); (constructor <;> (try simp only [List.length_cons, List.length_nil]) <;> omega); intro a' cap' N' Rr' hO' hN' hR') | ((apply yf1 (enc := encS) (kl := 1) (m := k) (o := 0) (xs := ss) (z := (sa, _, sc)) ((a', (xs ++ [x]).length, cap') : SD)); infer_instance; exact rfl; exact rfl; exact aT_; exact q1; exact zl1; omega; exact rfl; exact rfl; (intro u hu; simp at hu; subst hu; rfl); (exact Nat.le_refl _); exact rfl; exact uP_) | (apply zC0 (enc := encI) (k := 1) (m := k) (o := 0) (xs := (m.held)) (h + 1) (hH1); infer_instance; exact rfl; exact rfl; exact aT_; exact (hh); exact j8; omega; exact rfl; exact rfl; (intro u hu; simp at hu; first | (subst hu; rfl) | (rcases hu with rfl | rfl <;> rfl) | (rcases hu with rfl | rfl | rfl <;> rfl) | (rcases hu with rfl | rfl | rfl | rfl <;> rfl)); (first | decide | exact Nat.le_refl _ | (simp only [List.length_cons, List.length_nil]; decide)); exact rfl; exact uP_) | ((first | apply w9 | apply y8 | apply x8 | apply n0); exact rfl; exact rfl) | (apply w7; first | refine u9 (h := ?_) | refine y9 (h := ?_) | refine w8 (h := ?_) | refine q6 (h := ?_) | refine q0 (h := ?_)) | ((first | apply p3 | apply o8); exact rfl; exact rfl; exact rfl) | ((first | apply j0 | apply ze5); exact rfl; exact rfl; exact rfl; (constructor <;> omega)) | (apply o7; exact rfl; intro _) | (apply zc5; exact rfl; exact rfl; exact rfl; intro _) | (apply q7; first | refine q8 (h := ?_) | refine q9 (h := ?_)) | (apply g7; first | refine a8 (h := ?_)) | (apply m9; refine l9 (h := fun _ => ?_)) | (apply m8; infer_instance; infer_instance; exact rfl; exact rfl; (first | exact rfl | omega); exact rfl; (first | assumption | omega | decide)) | ((first | apply s9 | apply x9 | apply z8 | apply s7 | apply s8 | apply w4 | apply z9 | apply w5)) | (apply v8; exact rfl; exact tT_) | (apply v9; exact rfl; exact fF_) | ((first | apply w6 | apply z6 | apply z0 | apply p5 | apply y0 | apply z7)) | ((apply p6 (id := 1) []); kernel_rfl; kernel_rfl) | ((apply p6 (id := 8) []); kernel_rfl; kernel_rfl) | (apply za6; try simp only [za9, List.cons_append, List.nil_append]) | ((first | apply i9 | apply n9 | apply m5); exact rfl; exact rfl) | (apply m0; first | refine k8 (h := ?_) | refine p7 (h := ?_) | refine m6 (h := ?_) | refine d8 (h := ?_) | refine d7 (h := ?_)) | ((first | apply ze6 | apply zh4); exact rfl; exact rfl; exact rfl) | (apply zb1; refine zb5 (h := ?_)) | (apply zc3; infer_instance; infer_instance; exact rfl; exact rfl; (first | exact rfl | omega); exact rfl; (first | assumption | omega | decide)) | (apply zd9; refine zf0 (h := fun _ => ?_)))
    apply ya6; apply yk7 Try.results70; intro w' hw
    exact ⟨_, _, rfl, ⟨rfl, bs, bw, bh, ao, co, ar, cr, a9, c9, _, _, NO, NR, N9, rfl, q5 _ _ _ hO', hO, hR, hO9, ⟨by simp [zs], zw, by rw [← hH1]; simp [zh]⟩⟩, hw.sub (by simp only [List.cons_append, List.append_assoc, List.nil_append]; exact hS_)⟩
  by_cases hleft : 0 < m.left
  · obtain ⟨H0, hH0⟩ : ∃ H0, m.held.set k 0 = H0 := ⟨_, rfl⟩
    obtain ⟨H1, hH1⟩ : ∃ H1, H0.set k (0 + 1) = H1 := ⟨_, rfl⟩
    obtain ⟨W1, hW1⟩ : ∃ W1, m.swept.set k (s + 1) = W1 := ⟨_, rfl⟩
    have hh0 : H0[k]? = some 0 := by rw [← hH0, List.getElem?_set_self hhl]
    have g4 := (Pat.flat j8 H0 []).one hh0 rfl
    have e : Srt.zg2 caps m ⟨x, k⟩ = ⟨m.stackers.set k (xs ++ [x]), W1, m.over, m.rej, m.evs ++ [⟨2, x, k⟩, ⟨1, x, k⟩], H1, m.left - 1⟩ := by
      unfold Srt.zg2
      simp only [Int.toNat_natCast, dc, dh]
      rw [if_neg (by omega), if_neg hlt, if_pos hleft]
      have d0 : H0.getD k 0 = 0 := by simp [hh0]
      simp only [Srt.ze0, Srt.note, Srt.putAt, Seq.zm3, Int.toNat_natCast, dx, ds, hH0, d0, hH1, hW1]
    rw [e]
    refine zj3 Try.func70 rfl Try.ntmps70 rfl (hw) ?_
    repeat' (first | (apply ya1; exact rfl; exact rfl; exact rfl; (focus (repeat (first | exact Rem.hd | apply Rem.tl | apply Rem.right))); assumption; exact rL_; (exact fun w hw => SV.lit [(⟨2, x, k⟩ : Srt.Ev), ⟨1, x, k⟩] ze4 hw (by exact aT_) rfl rfl (by decide)); exact ⟨by omega, by simp⟩; intro a9 c9 N9 hO9; have oN9 := hO9.own) | ((apply zF5 (id := 15) (yH3 16 N hN [(16, yH8 3 1 encI (xs ++ [x]))])); kernel_rfl; kernel_rfl; exact rfl; exact rL_) | ((apply yy2 (enc := encI) (xs := xs) (ys := [x]) (H := N)); infer_instance; infer_instance; infer_instance; exact rfl; exact j8; exact zg4; exact rfl; exact rfl; exact rfl; exact rfl; exact sJ_; exact rfl; exact q2; (exact fun w hw => SV.lit [x] j8 hw (by exact aT_) rfl rfl (by decide)); (constructor <;> (try simp only [List.length_cons, List.length_nil]) <;> omega); intro a' cap' N' Rr' hO' hN' hR') | ((apply yf1 (enc := encS) (kl := 1) (m := k) (o := 0) (xs := ss) (z := (sa, _, sc)) ((a', (xs ++ [x]).length, cap') : SD)); infer_instance; exact rfl; exact rfl; exact aT_; exact q1; exact zl1; omega; exact rfl; exact rfl; (intro u hu; simp at hu; subst hu; rfl); (exact Nat.le_refl _); exact rfl; exact uP_) | (apply zC0 (enc := encI) (k := 1) (m := k) (o := 0) (xs := (m.held)) (0) (hH0); infer_instance; exact rfl; exact rfl; exact aT_; exact (hh); exact j8; omega; exact rfl; exact rfl; (intro u hu; simp at hu; first | (subst hu; rfl) | (rcases hu with rfl | rfl <;> rfl) | (rcases hu with rfl | rfl | rfl <;> rfl) | (rcases hu with rfl | rfl | rfl | rfl <;> rfl)); (first | decide | exact Nat.le_refl _ | (simp only [List.length_cons, List.length_nil]; decide)); exact rfl; exact uP_) | (apply zC0 (enc := encI) (k := 1) (m := k) (o := 0) (xs := (m.swept)) (s + 1) (hW1); infer_instance; exact rfl; exact rfl; exact aT_; exact (hs); exact j8; omega; exact rfl; exact rfl; (intro u hu; simp at hu; first | (subst hu; rfl) | (rcases hu with rfl | rfl <;> rfl) | (rcases hu with rfl | rfl | rfl <;> rfl) | (rcases hu with rfl | rfl | rfl | rfl <;> rfl)); (first | decide | exact Nat.le_refl _ | (simp only [List.length_cons, List.length_nil]; decide)); exact rfl; exact uP_) | (apply zC0 (enc := encI) (k := 1) (m := k) (o := 0) (xs := (H0)) (0 + 1) (hH1); infer_instance; exact rfl; exact rfl; exact aT_; exact (hh0); exact j8; omega; exact rfl; exact rfl; (intro u hu; simp at hu; first | (subst hu; rfl) | (rcases hu with rfl | rfl <;> rfl) | (rcases hu with rfl | rfl | rfl <;> rfl) | (rcases hu with rfl | rfl | rfl | rfl <;> rfl)); (first | decide | exact Nat.le_refl _ | (simp only [List.length_cons, List.length_nil]; decide)); exact rfl; exact uP_) | ((first | apply w9 | apply y8 | apply x8 | apply n0); exact rfl; exact rfl) | (apply w7; first | refine u9 (h := ?_) | refine y9 (h := ?_) | refine w8 (h := ?_) | refine q6 (h := ?_) | refine q0 (h := ?_)) | ((first | apply p3 | apply o8); exact rfl; exact rfl; exact rfl) | ((first | apply j0 | apply ze5); exact rfl; exact rfl; exact rfl; (constructor <;> omega)) | (apply o7; exact rfl; intro _) | (apply zc5; exact rfl; exact rfl; exact rfl; intro _) | (apply q7; first | refine q8 (h := ?_) | refine q9 (h := ?_)) | (apply g7; first | refine a8 (h := ?_)) | (apply m9; refine l9 (h := fun _ => ?_)) | (apply m8; infer_instance; infer_instance; exact rfl; exact rfl; (first | exact rfl | omega); exact rfl; (first | assumption | omega | decide)) | ((first | apply s9 | apply x9 | apply z8 | apply s7 | apply s8 | apply w4 | apply z9 | apply w5)) | (apply v8; exact rfl; exact tT_) | (apply v9; exact rfl; exact fF_) | ((first | apply w6 | apply z6 | apply z0 | apply p5 | apply y0 | apply z7)) | ((apply p6 (id := 1) []); kernel_rfl; kernel_rfl) | ((apply p6 (id := 8) []); kernel_rfl; kernel_rfl) | (apply za6; try simp only [za9, List.cons_append, List.nil_append]) | ((first | apply i9 | apply n9 | apply m5); exact rfl; exact rfl) | (apply m0; first | refine k8 (h := ?_) | refine p7 (h := ?_) | refine m6 (h := ?_) | refine d8 (h := ?_) | refine d7 (h := ?_)) | ((first | apply ze6 | apply zh4); exact rfl; exact rfl; exact rfl) | (apply zb1; refine zb5 (h := ?_)) | (apply zc3; infer_instance; infer_instance; exact rfl; exact rfl; (first | exact rfl | omega); exact rfl; (first | assumption | omega | decide)) | (apply zd9; refine zf0 (h := fun _ => ?_)))
    apply ya6; apply yk7 Try.results70; intro w' hw
    exact ⟨_, _, rfl, ⟨rfl, bs, bw, bh, ao, co, ar, cr, a9, c9, _, _, NO, NR, N9, rfl, q5 _ _ _ hO', hO, hR, hO9, ⟨by simp [zs], by rw [← hW1]; simp [zw], by rw [← hH1, ← hH0]; simp [zh]⟩⟩, hw.sub (by simp only [List.cons_append, List.append_assoc, List.nil_append]; exact hS_)⟩
  · have e : Srt.zg2 caps m ⟨x, k⟩ = ⟨m.stackers, m.swept, m.over ++ [x], m.rej, m.evs ++ [⟨3, x, k⟩], m.held, m.left⟩ := by
      unfold Srt.zg2
      simp only [Int.toNat_natCast, dc, dh]
      rw [if_neg (by omega), if_neg hlt, if_neg hleft]
      rfl
    rw [e]
    refine zj3 Try.func70 rfl Try.ntmps70 rfl (hw) ?_
    repeat' (first | (apply zc4 (enc := encI) (ys := [(x)]); infer_instance; infer_instance; infer_instance; exact rfl; exact j8; exact zg4; exact rfl; exact rfl; exact rfl; assumption; exact rL_; (exact fun w hw => SV.lit [(x)] j8 hw (by exact aT_) rfl rfl (by decide)); (first | decide | (constructor <;> (try simp only [List.length_cons, List.length_nil]) <;> omega) | (constructor <;> simp <;> omega)); intro a1 c1 N1 hO1; have oN1 := hO1.own) | (apply ya1; exact rfl; exact rfl; exact rfl; (focus (repeat (first | exact Rem.hd | apply Rem.tl | apply Rem.right))); assumption; exact rL_; (exact fun w hw => SV.lit [(⟨3, x, k⟩ : Srt.Ev)] ze4 hw (by exact aT_) rfl rfl (by decide)); exact ⟨by omega, by simp⟩; intro a9 c9 N9 hO9; have oN9 := hO9.own) | ((first | apply w9 | apply y8 | apply x8 | apply n0); exact rfl; exact rfl) | (apply w7; first | refine u9 (h := ?_) | refine y9 (h := ?_) | refine w8 (h := ?_) | refine q6 (h := ?_) | refine q0 (h := ?_)) | ((first | apply p3 | apply o8); exact rfl; exact rfl; exact rfl) | (apply o7; exact rfl; intro _) | (apply zc5; exact rfl; exact rfl; exact rfl; intro _) | (apply q7; first | refine q8 (h := ?_) | refine q9 (h := ?_)) | (apply g7; first | refine a8 (h := ?_)) | (apply m9; refine l9 (h := fun _ => ?_)) | ((first | apply s9 | apply x9 | apply z8 | apply s7 | apply s8 | apply w4 | apply z9 | apply w5)) | (apply v9; exact rfl; exact fF_) | ((first | apply w6 | apply z6 | apply z0 | apply p5 | apply y0 | apply z7)) | ((apply p6 (id := 1) []); kernel_rfl; kernel_rfl) | ((apply p6 (id := 8) []); kernel_rfl; kernel_rfl) | (apply za6; try simp only [za9, List.cons_append, List.nil_append]) | ((first | apply i9 | apply n9 | apply m5); exact rfl; exact rfl) | (apply m0; first | refine k8 (h := ?_) | refine p7 (h := ?_) | refine m6 (h := ?_) | refine d8 (h := ?_) | refine d7 (h := ?_)) | ((first | apply ze6 | apply zh4); exact rfl; exact rfl; exact rfl) | (apply zb1; refine zb5 (h := ?_)) | (apply zc3; infer_instance; infer_instance; exact rfl; exact rfl; (first | exact rfl | omega); exact rfl; (first | assumption | omega | decide)))
    apply p8; apply yk7 Try.results70; intro w' hw
    exact ⟨_, _, rfl, ⟨rfl, bs, bw, bh, a1, c1, ar, cr, a9, c9, ss, _, N1, NR, N9, rfl, hS, hO1, hR, hO9, ⟨zs, zw, zh⟩⟩, hw.sub (by simp only [List.cons_append, List.append_assoc, List.nil_append]; exact hS_)⟩
end Go.Proofs.Ytdahckhlfldkkaa
namespace Go.Proofs.Ytdahckhlfldkkaa
open Go Go.Sx Go.RowKit
attribute [local irreducible] WL WC WQ WR St Exit.then Exit.inBlock Exit.noGoto bodyPost roundPost zc1 YR RG BM Calls B zc7 ze3
def passOW (m : Srt.M) (v : Value) (N : List Ent) : Prop := ∃ a1 c1 a2 c2 a3 c3 a4 c4 a5 c5 ss N1 M1 N2 N3 N4 N5, v = .agg #[.slice a1 m.stackers.length c1, .slice a2 m.swept.length c2, .slice a3 m.over.length c3, .slice a4 m.rej.length c4, .slice a5 m.evs.length c5] ∧
  OW 44 1 encS (.slice a1 m.stackers.length c1) ss N1 ∧ LL 3 1 encI ss m.stackers M1 ∧ OW 3 1 encI (.slice a2 m.swept.length c2) m.swept N2 ∧ OW 3 1 encI (.slice a3 m.over.length c3) m.over N3 ∧ OW 3 1 encI (.slice a4 m.rej.length c4) m.rej N4 ∧ OW 173 3 zp1 (.slice a5 m.evs.length c5) m.evs N5 ∧
  N = N1 ++ (M1 ++ (N2 ++ (N3 ++ (N4 ++ N5))))
theorem passOW.own {m : Srt.M} {v : Value} {N : List Ent} (h : passOW m v N) : ∀ x ∈ N, x.own = true := by
  obtain ⟨a1, c1, a2, c2, a3, c3, a4, c4, a5, c5, ss, N1, M1, N2, N3, N4, N5, rfl, h1, h2, h3, h4, h5, h6, rfl⟩ := h
  intro x hx
  simp only [List.mem_append] at hx
  rcases hx with hx | hx | hx | hx | hx | hx
  · exact h1.own x hx
  · exact h2.own x hx
  · exact h3.own x hx
  · exact h4.own x hx
  · exact h5.own x hx
  · exact h6.own x hx
theorem passOW.zero : passOW (Srt.M.new 0 0) (.agg #[.slice none 0 0, .slice none 0 0, .slice none 0 0, .slice none 0 0, .slice none 0 0]) [] :=
  ⟨none, 0, none, 0, none, 0, none, 0, none, 0, [], [], [], [], [], [], [], rfl, OW.nil, LL.nil, OW.nil, OW.nil, OW.nil, OW.nil, rfl⟩
theorem yE3 {b n : Nat} {xs : List Int} (h : xs.length = n) (hn : n ≤ 1000000) : OW 3 1 encI (.slice (some ⟨b, 0, none⟩) n n) xs [⟨b, Ce (xs.flatMap encI ++ []) 3, true⟩] := by
  subst h
  exact OW.row (by rw [List.append_nil, zq5 j8]) ⟨Nat.le_refl _, by omega⟩
theorem yE4 {b n : Nat} {ss : List SD} (h : ss.length = n) (hn : n ≤ 1000000) : OW 44 1 encS (.slice (some ⟨b, 0, none⟩) n n) ss [⟨b, Ce (ss.flatMap encS ++ []) 44, true⟩] := by
  subst h
  exact OW.row (by rw [List.append_nil, zq5 zl1]) ⟨Nat.le_refl _, by omega⟩
set_option maxHeartbeats 16000000 in
theorem yk5 {cv fv : Value} {caps : List Int} {s : Int} {l : List Srt.Fd} (w : World) (h : SV w 1 encI cv caps) (hl : SV w 2 zo0 fv l) (hn : caps.length ≤ 64) (hs : -9223372036854775808 ≤ s ∧ s ≤ 9223372036854775807) (hf : ∀ f ∈ l, f.st < caps.length) (hlen : l.length ≤ 5000) :
    Calls Try.prog 62 #[cv, .int .i64 s, fv] w fun e w' => ∃ v N, e = .returned v ∧ passOW (Srt.za2 caps s l) v N ∧ Rep w w' N ∧ ∀ x ∈ N, x.own = true := by
  obtain ⟨a0, ca, rfl, hca, hop⟩ := hl.open
  refine zd8 Try.func62 rfl Try.ntmps62 rfl (Rep.start w) ?_
  repeat' (first | ((first | ((apply f5 (f := 69)); exact rfl) | ((apply d6 (f := 69)); exact rfl; exact rfl; exact sJ_)); exact eV_; exact (fun w hw => yq8 w (h.keep hw (by exact aO_)) hn); rintro v N ⟨b, rfl, hm0, oN⟩ <;> (try simp only [List.cons_append, List.nil_append, List.append_assoc])) | ((first | apply w9 | apply y8 | apply x8 | apply n0); exact rfl; exact rfl) | (apply o7; exact rfl; intro _) | (apply o9; infer_instance; exact rfl; exact rfl) | ((first | apply s9 | apply x9 | apply z8 | apply s7 | apply s8 | apply w4 | apply z9 | apply w5)) | ((first | apply w6 | apply z6 | apply z0 | apply p5 | apply y0 | apply z7)))
  rename_i b6
  apply j9 (σ := Nat × List Ent) (Fs := fun t => [(15, .int .i64 t.1), (14, .int .i64 l.length), (13, .slice a0 l.length ca), (7, ptr b), (6, ptr b6)])
    (Ls := fun t => t.2 ++ [⟨b6, Ce [.slice none 0 0, .slice none 0 0, .slice none 0 0, .slice none 0 0, .slice none 0 0] 72, true⟩])
    (I := fun t => t.1 ≤ l.length ∧ mach caps.length b cv (Srt.za2 caps s (l.take t.1)) t.2) (μ := fun t => l.length - t.1) (s0 := (0, N))
  · exact ⟨Nat.zero_le _, by simpa [Srt.za2] using hm0⟩
  · exact fS_
  · exact hS_
  rintro ⟨i, G⟩ ⟨hi, hm⟩
  dsimp only at hi hm ⊢
  have oG := hm.own
  by_cases hlt : i < l.length
  · obtain ⟨⟨x, st⟩, hx⟩ : ∃ f, l[i]? = some f := ⟨_, List.getElem?_eq_getElem hlt⟩
    obtain ⟨b1, off, cc, e, fz, rfl, hk, hp⟩ := hop (by omega)
    have g1 := hp.get hx
    have hst := hf _ (List.mem_of_getElem? hx)
    dsimp only at hst
    have hbd := Srt.yy0 caps hs (l.take i)
    have htl : (l.take i).length ≤ 5000 := by rw [List.length_take]; omega
    have e1 : Srt.za2 caps s (l.take (i + 1)) = Srt.zg2 caps (Srt.za2 caps s (l.take i)) ⟨x, st⟩ := by rw [take_snoc hx, Srt.zz2]
    repeat' (first | ((apply zo6 (f := 70) (G := G) (Φ := fun v G' => v = .tuple #[] ∧ mach caps.length b cv (Srt.zg2 caps (Srt.za2 caps s (l.take i)) ⟨x, st⟩) G')); exact rfl; exact rfl; exact eV_; exact rL_; (exact fun w hw => by rw [Array.append_empty]; exact ym1 h (show AO _ by exact aO_) hw hm hbd (by omega) hst); rintro v G' ⟨rfl, hm'⟩; have oG' := hm'.own) | ((first | apply w9 | apply y8 | apply x8 | apply n0); exact rfl; exact rfl) | (apply w7; first | refine u9 (h := ?_) | refine y9 (h := ?_) | refine w8 (h := ?_) | refine q6 (h := ?_) | refine q0 (h := ?_)) | (apply p3; exact rfl; exact rfl; exact rfl) | (apply j0; exact rfl; exact rfl; exact rfl; (constructor <;> omega)) | (apply o7; exact rfl; intro _) | (apply q7; first | refine q8 (h := ?_) | refine q9 (h := ?_)) | (apply m8; infer_instance; infer_instance; exact rfl; exact rfl; (first | exact rfl | omega); exact rfl; (first | assumption | omega | decide)) | ((first | apply s9 | apply x9 | apply z8 | apply s7 | apply s8 | apply w4 | apply z9 | apply w5)) | (apply v8; exact rfl; exact tT_) | ((first | apply w6 | apply z6 | apply z0 | apply p5 | apply y0 | apply z7)))
    refine o0 (i + 1, G') ⟨by dsimp only; omega, by dsimp only; rw [e1]; exact hm'⟩ (by dsimp only; omega) ?_ ?_
    · exact fS_
    · exact hS_
  rw [List.take_of_length_le (by omega)] at hm
  obtain ⟨bs, bw, bh, ao, co, ar, cr, ae, ce, ss, ML, NO, NR, NE, rfl, hS, hO, hR, hE, hz⟩ := hm
  have h1 := hS.own
  have h2 := hO.own
  have h3 := hR.own
  have h4 := hE.own
  simp only [List.cons_append, List.append_assoc, List.nil_append]
  generalize Srt.za2 caps s l = m at *
  repeat' (first | ((apply yG9 (l := [slc bs caps.length, slc bw caps.length, .slice ao m.over.length co, .slice ar m.rej.length cr, .slice ae m.evs.length ce])); infer_instance; infer_instance; exact rfl; exact kN_; (intro j v hj; rcases j with _ | _ | _ | _ | _ | j <;> simp_all); exact rfl; exact rfl) | ((first | apply w9 | apply y8 | apply x8 | apply n0); exact rfl; exact rfl) | (apply p3; exact rfl; exact rfl; exact rfl) | (apply q7; first | refine q8 (h := ?_) | refine q9 (h := ?_)) | ((first | apply s9 | apply x9 | apply z8 | apply s7 | apply s8 | apply w4 | apply z9 | apply w5)) | (apply v9; exact rfl; exact fF_) | ((first | apply w6 | apply z6 | apply z0 | apply p5 | apply y0 | apply z7)))
  apply p8; apply zb0 Try.results62; exact rV_; intro w' hw
  refine ⟨_, ⟨bs, Ce (ss.flatMap encS ++ []) 44, true⟩ :: (ML ++ (⟨bw, Ce (m.swept.flatMap encI ++ []) 3, true⟩ :: (NO ++ (NR ++ NE)))), rfl, ⟨some ⟨bs, 0, none⟩, caps.length, some ⟨bw, 0, none⟩, caps.length, ao, co, ar, cr, ae, ce, ss, [_], ML, [_], NO, NR, NE, ?_, ?_, hS, ?_, hO, hR, hE, rfl⟩, ?_, ?_⟩
  · rw [hz.st, hz.sw]
  · rw [hz.st]; exact yE4 (by rw [hS.len, hz.st]) (by omega)
  · rw [hz.sw]; exact yE3 hz.sw (by omega)
  · refine hw.sub ?_
    conv => arg 1; rw [← List.append_nil NE]
    exact hS_
  · rw [← List.append_nil NE]
    exact show AO _ by exact aO_
theorem zM1 {v : Value} {caps : List Int} (w : World) (h : SV w 1 encI v caps) : Calls Try.prog 60 #[v] w fun e w' => e = .returned (.bool (B (Srt.zo3 caps))) ∧ Below w.heap.size w w' := by
  obtain ⟨a0, ca, rfl, hca, hop⟩ := h.open
  by_cases hl : 1 ≤ caps.length ∧ caps.length ≤ 64
  case neg =>
    rw [zc2 (fun h => hl h.1)]
    refine zd2 Try.func60 rfl Try.ntmps60 rfl (Rep.start w) ?_
    repeat' (first | ((first | apply w9 | apply y8); exact rfl; exact rfl) | ((first | apply p3 | apply o8); exact rfl; exact rfl; exact rfl) | (apply n8; exact rfl; exact tT_; exact rfl; exact rfl) | (apply p9; exact rfl; exact fF_; exact rfl; exact rfl) | (apply o9; infer_instance; exact rfl; exact rfl) | ((first | apply k9); exact rfl; exact gG_) | (apply za5; exact rfl; exact gG_; exact rfl) | ((first | apply s9 | apply x9 | apply z8 | apply s7 | apply s8 | apply w4 | apply z9 | apply w5)) | (apply v8; exact rfl; exact tT_) | ((first | apply w6 | apply z6 | apply z0 | apply p5 | apply y0 | apply z7)) | (apply zd3; exact rfl; intro hcond; rotate_left; intro hcond; rotate_left))
    all_goals first
      | (exfalso; omega)
      | (apply p8; apply zb0 Try.results60; exact rV_; intro w' hw; exact ⟨rfl, hw.below (by simp)⟩)
  refine zd2 Try.func60 rfl Try.ntmps60 rfl (Rep.start w) ?_
  repeat' (first | ((first | apply w9 | apply y8); exact rfl; exact rfl) | ((first | apply p3 | apply o8); exact rfl; exact rfl; exact rfl) | (apply p9; exact rfl; exact fF_; exact rfl; exact rfl) | (apply o9; infer_instance; exact rfl; exact rfl) | ((first | apply k9); exact rfl; exact gG_) | ((first | apply s9 | apply x9 | apply z8 | apply s7 | apply s8 | apply w4 | apply z9 | apply w5)) | (apply v9; exact rfl; exact fF_) | ((first | apply w6 | apply z6 | apply z0 | apply p5 | apply y0 | apply z7)))
  apply j9 (σ := Nat) (Fs := fun i => [(15, .int .i64 i), (14, .int .i64 caps.length), (13, .slice a0 caps.length ca)])
    (Ls := fun i => []) (I := fun i => i ≤ caps.length ∧ ∀ c ∈ caps.take i, 1 ≤ c ∧ c ≤ 100000) (μ := fun i => caps.length - i) (s0 := 0)
  · exact ⟨Nat.zero_le _, by simp⟩
  · exact fS_
  · exact hS_
  rintro i ⟨hi, hin⟩
  by_cases hlt : i < caps.length
  · obtain ⟨c, hx⟩ : ∃ c, caps[i]? = some c := ⟨_, List.getElem?_eq_getElem hlt⟩
    obtain ⟨b, off, cc, e, fz, rfl, hk, hp⟩ := hop (by omega)
    have h1 := hp.one hx rfl
    by_cases hc : 1 ≤ c ∧ c ≤ 100000
    · repeat' (first | ((first | apply w9 | apply y8); exact rfl; exact rfl) | (apply w7; first | refine u9 (h := ?_) | refine y9 (h := ?_) | refine w8 (h := ?_) | refine q6 (h := ?_) | refine q0 (h := ?_)) | ((first | apply p3 | apply o8); exact rfl; exact rfl; exact rfl) | (apply j0; exact rfl; exact rfl; exact rfl; (constructor <;> omega)) | (apply p9; exact rfl; exact fF_; exact rfl; exact rfl) | (apply m8; infer_instance; infer_instance; exact rfl; exact rfl; (first | exact rfl | omega); exact rfl; (first | assumption | omega | decide)) | ((first | apply k9); exact rfl; exact gG_) | ((first | apply s9 | apply x9 | apply z8 | apply s7 | apply s8 | apply w4 | apply z9 | apply w5)) | (apply v8; exact rfl; exact tT_) | (apply v9; exact rfl; exact fF_) | ((first | apply w6 | apply z6 | apply z0 | apply p5 | apply y0 | apply z7)))
      refine o0 (i + 1) ⟨by omega, zh0 hx hin hc⟩ (by omega) ?_ ?_
      · exact fS_
      · exact hS_
    · rw [zc2 (fun h => hc (h.2 c (List.mem_of_getElem? hx)))]
      repeat' (first | ((first | apply w9 | apply y8); exact rfl; exact rfl) | (apply w7; first | refine u9 (h := ?_) | refine y9 (h := ?_) | refine w8 (h := ?_) | refine q6 (h := ?_) | refine q0 (h := ?_)) | ((first | apply p3 | apply o8); exact rfl; exact rfl; exact rfl) | (apply n8; exact rfl; exact tT_; exact rfl; exact rfl) | (apply p9; exact rfl; exact fF_; exact rfl; exact rfl) | (apply m8; infer_instance; infer_instance; exact rfl; exact rfl; (first | exact rfl | omega); exact rfl; (first | assumption | omega | decide)) | ((first | apply k9); exact rfl; exact gG_) | (apply za5; exact rfl; exact gG_; exact rfl) | ((first | apply s9 | apply x9 | apply z8 | apply s7 | apply s8 | apply w4 | apply z9 | apply w5)) | (apply v8; exact rfl; exact tT_) | ((first | apply w6 | apply z6 | apply z0 | apply p5 | apply y0 | apply z7)) | (apply zd3; exact rfl; intro hcond; rotate_left; intro hcond; rotate_left))
      all_goals first
        | (exfalso; omega)
        | (apply p8; apply zb0 Try.results60; exact rV_; intro w' hw; exact ⟨rfl, hw.below (by simp)⟩)
  · rw [List.take_of_length_le (by omega)] at hin
    rw [zj0 ⟨hl, hin⟩]
    repeat' (first | ((first | apply w9 | apply y8); exact rfl; exact rfl) | ((first | apply p3 | apply o8); exact rfl; exact rfl; exact rfl) | ((first | apply s9 | apply x9 | apply z8 | apply s7 | apply s8 | apply w4 | apply z9 | apply w5)) | (apply v9; exact rfl; exact fF_) | ((first | apply w6 | apply z6 | apply z0 | apply p5 | apply y0 | apply z7)))
    apply p8; apply zb0 Try.results60; exact rV_; intro w' hw
    exact ⟨rfl, hw.below (by simp)⟩
theorem zJ8 {v : Value} {caps : List Int} (hm : Srt.zo3 caps) (w : World) (h : SV w 1 encI v caps) : Calls Try.prog 60 #[v] w fun e w' => e = .returned (.bool true) ∧ Below w.heap.size w w' := by
  have := zM1 w h; rwa [zj0 hm] at this
theorem yu3 {v : Value} {caps : List Int} (hm : ¬ Srt.zo3 caps) (w : World) (h : SV w 1 encI v caps) : Calls Try.prog 60 #[v] w fun e w' => e = .returned (.bool false) ∧ Below w.heap.size w w' := by
  have := zM1 w h; rwa [zc2 hm] at this
set_option maxHeartbeats 4000000 in
theorem yq4 {fv : Value} {n : Nat} {l : List Srt.Fd} (w : World) (h : SV w 2 zo0 fv l) : Calls Try.prog 61 #[.int .i64 n, fv] w fun e w' => e = .returned (.int .i64 (Srt.zp0 n l)) ∧ Below w.heap.size w w' := by
  obtain ⟨a0, ca, rfl, hca, hop⟩ := h.open
  by_cases hbig : 2000 < l.length
  · have e : Srt.zp0 n l = 5 := by unfold Srt.zp0; rw [if_pos hbig]
    rw [e]
    refine za8 Try.func61 rfl Try.ntmps61 rfl (Rep.start w) ?_
    repeat' (first | ((first | apply w9 | apply y8 | apply x8); exact rfl; exact rfl) | ((first | apply p3 | apply o8 | apply d9); exact rfl; exact rfl; exact rfl) | (apply o9; infer_instance; exact rfl; exact rfl) | ((first | apply s9 | apply x9 | apply z8 | apply s7 | apply s8 | apply w4 | apply z9 | apply w5)) | (apply v8; exact rfl; exact tT_) | ((first | apply w6 | apply z6 | apply z0 | apply p5 | apply y0 | apply z7)))
    apply p8; apply zb0 Try.results61; exact rV_; intro w' hw
    exact ⟨rfl, hw.below (by simp)⟩
  have e0 : Srt.zp0 n l = if Srt.zA9 n [] l = true then 291 else 0 := by unfold Srt.zp0; rw [if_neg hbig]
  refine za8 Try.func61 rfl Try.ntmps61 rfl (Rep.start w) ?_
  repeat' (first | ((first | apply w9 | apply y8 | apply x8); exact rfl; exact rfl) | ((first | apply p3 | apply o8 | apply d9); exact rfl; exact rfl; exact rfl) | (apply o9; infer_instance; exact rfl; exact rfl) | (apply zm0; infer_instance; exact rfl; exact rfl; intro _) | ((first | apply s9 | apply x9 | apply z8 | apply s7 | apply s8 | apply w4 | apply z9 | apply w5)) | (apply v9; exact rfl; exact fF_) | ((first | apply w6 | apply z6 | apply z0 | apply p5 | apply y0 | apply z7)))
  rename_i bm
  apply j9 (σ := Nat) (Fs := fun i => [(16, .int .i64 i), (15, .int .i64 l.length), (14, .slice a0 l.length ca), (5, .map (some bm)), (0, .int .i64 n)])
    (Ls := fun i => [⟨bm, MO (zx9 .i64 ((l.take i).map Srt.Fd.item)), true⟩]) (I := fun i => i ≤ l.length ∧ ((l.take i).map Srt.Fd.item).Nodup ∧ Srt.zA9 n [] l = Srt.zA9 n ((l.take i).map Srt.Fd.item) (l.drop i)) (μ := fun i => l.length - i) (s0 := 0)
  · exact ⟨Nat.zero_le _, by simp, by simp⟩
  · exact fS_
  · exact hS_
  rintro i ⟨hi, hnd, hw0⟩
  by_cases hlt : i < l.length
  · obtain ⟨f, hx⟩ : ∃ s, l[i]? = some s := ⟨_, List.getElem?_eq_getElem hlt⟩
    obtain ⟨b, off, cc, e, fz, rfl, hk, hp⟩ := hop (by omega)
    have h1 := hp.get hx
    rw [drop_at hx, Srt.zA9] at hw0
    have e1 : (l.take (i + 1)).map Srt.Fd.item = (l.take i).map Srt.Fd.item ++ [f.item] := by rw [take_snoc hx]; simp
    by_cases hok : Srt.Fd.ok n f
    · have hok' := hok
      unfold Srt.Fd.ok at hok'
      by_cases hm : f.item ∈ (l.take i).map Srt.Fd.item
      · rw [if_neg (fun h => h.2 hm)] at hw0
        rw [e0, hw0, if_pos rfl]
        repeat' (first | ((first | apply w9 | apply y8 | apply x8); exact rfl; exact rfl) | (apply w7; first | refine u9 (h := ?_) | refine y9 (h := ?_) | refine w8 (h := ?_) | refine q6 (h := ?_) | refine q0 (h := ?_)) | ((first | apply p3 | apply o8 | apply d9); exact rfl; exact rfl; exact rfl) | (apply n8; exact rfl; exact tT_; exact rfl; exact rfl) | (apply p9; exact rfl; exact fF_; exact rfl; exact rfl) | ((first | apply o7 | apply c8); exact rfl; intro _) | (apply q7; first | refine q8 (h := ?_) | refine q9 (h := ?_)) | (apply zg7; refine zk5 (h := ?_)) | (apply m8; infer_instance; infer_instance; exact rfl; exact rfl; (first | exact rfl | omega); exact rfl; (first | assumption | omega | decide)) | ((first | apply k9); exact rfl; exact gG_) | (apply za5; exact rfl; exact gG_; exact rfl) | ((first | apply s9 | apply x9 | apply z8 | apply s7 | apply s8 | apply w4 | apply z9 | apply w5)) | (apply v8; exact rfl; exact tT_) | ((first | apply w6 | apply z6 | apply z0 | apply p5 | apply y0 | apply z7)))
        apply p8; apply zb0 Try.results61; exact rV_; intro w' hw
        exact ⟨rfl, hw.below (by simp)⟩
      · rw [if_pos ⟨hok, hm⟩] at hw0
        repeat' (first | ((first | apply w9 | apply y8 | apply x8); exact rfl; exact rfl) | (apply w7; first | refine u9 (h := ?_) | refine y9 (h := ?_) | refine w8 (h := ?_) | refine q6 (h := ?_) | refine q0 (h := ?_)) | ((first | apply p3 | apply o8 | apply d9); exact rfl; exact rfl; exact rfl) | (apply j0; exact rfl; exact rfl; exact rfl; (constructor <;> omega)) | (apply p9; exact rfl; exact fF_; exact rfl; exact rfl) | ((first | apply o7 | apply c8); exact rfl; intro _) | (apply q7; first | refine q8 (h := ?_) | refine q9 (h := ?_)) | (apply zg7; refine zk5 (h := ?_)) | (apply zq1; refine zA1 (h := ?_)) | (apply m8; infer_instance; infer_instance; exact rfl; exact rfl; (first | exact rfl | omega); exact rfl; (first | assumption | omega | decide)) | ((first | apply k9); exact rfl; exact gG_) | ((first | apply s9 | apply x9 | apply z8 | apply s7 | apply s8 | apply w4 | apply z9 | apply w5)) | (apply v8; exact rfl; exact tT_) | (apply v9; exact rfl; exact fF_) | ((first | apply w6 | apply z6 | apply z0 | apply p5 | apply y0 | apply z7)))
        refine o0 (i + 1) ⟨by omega, ?_, ?_⟩ (by omega) ?_ ?_
        · rw [e1]
          rw [List.nodup_append]
          refine ⟨hnd, by simp, fun a ha b hb e => ?_⟩
          simp at hb; subst hb; subst e; exact hm ha
        · rw [e1]; exact hw0
        · exact fS_
        · simp only [e1]; exact hS_
    · rw [if_neg (fun h => hok h.1)] at hw0
      rw [e0, hw0, if_pos rfl]
      unfold Srt.Fd.ok at hok
      repeat' (first | ((first | apply w9 | apply y8 | apply x8); exact rfl; exact rfl) | (apply w7; first | refine u9 (h := ?_) | refine y9 (h := ?_) | refine w8 (h := ?_) | refine q6 (h := ?_) | refine q0 (h := ?_)) | ((first | apply p3 | apply o8 | apply d9); exact rfl; exact rfl; exact rfl) | (apply n8; exact rfl; exact tT_; exact rfl; exact rfl) | (apply p9; exact rfl; exact fF_; exact rfl; exact rfl) | ((first | apply o7 | apply c8); exact rfl; intro _) | (apply q7; first | refine q8 (h := ?_) | refine q9 (h := ?_)) | (apply zg7; refine zk5 (h := ?_)) | (apply m8; infer_instance; infer_instance; exact rfl; exact rfl; (first | exact rfl | omega); exact rfl; (first | assumption | omega | decide)) | ((first | apply k9); exact rfl; exact gG_) | (apply za5; exact rfl; exact gG_; exact rfl) | ((first | apply s9 | apply x9 | apply z8 | apply s7 | apply s8 | apply w4 | apply z9 | apply w5)) | (apply v8; exact rfl; exact tT_) | ((first | apply w6 | apply z6 | apply z0 | apply p5 | apply y0 | apply z7)) | (apply zd3; exact rfl; intro hcond; rotate_left; intro hcond; rotate_left))
      all_goals first
        | (exfalso; omega)
        | (apply p8; apply zb0 Try.results61; exact rV_; intro w' hw; exact ⟨rfl, hw.below (by simp)⟩)
  rw [List.drop_of_length_le (by omega), Srt.zA9] at hw0
  rw [e0, hw0, if_neg (by simp)]
  repeat' (first | ((first | apply w9 | apply y8 | apply x8); exact rfl; exact rfl) | ((first | apply p3 | apply o8 | apply d9); exact rfl; exact rfl; exact rfl) | ((first | apply s9 | apply x9 | apply z8 | apply s7 | apply s8 | apply w4 | apply z9 | apply w5)) | (apply v9; exact rfl; exact fF_) | ((first | apply w6 | apply z6 | apply z0 | apply p5 | apply y0 | apply z7)))
  apply p8; apply zb0 Try.results61; exact rV_; intro w' hw
  exact ⟨rfl, hw.below (by simp)⟩
def yM3 (r : Srt.M × Int) (v : Value) (N : List Ent) : Prop := ∃ pv, v = .tuple #[pv, .int .i64 r.2] ∧ passOW r.1 pv N ∧ ∀ x ∈ N, x.own = true
theorem yv0 {n : Nat} {l : List Srt.Fd} {k : Int} (hk : Srt.zp0 n l = k) {fv : Value} (w : World) (h : SV w 2 zo0 fv l) : Calls Try.prog 61 #[.int .i64 n, fv] w fun e w' => e = .returned (.int .i64 k) ∧ Below w.heap.size w w' := by
  subst hk; exact yq4 w h
set_option maxHeartbeats 8000000 in
theorem zX4 {cv fv : Value} {caps : List Int} {s : Int} {l : List Srt.Fd} (w : World) (h : SV w 1 encI cv caps) (hl : SV w 2 zo0 fv l) : Calls Try.prog 50 #[cv, .int .i64 s, fv] w fun e w' => ∃ v N, e = .returned v ∧ yM3 (Srt.zd0 caps s l) v N ∧ Rep w w' N ∧ ∀ x ∈ N, x.own = true := by
  obtain ⟨a0, ca, rfl, hca, hop⟩ := h.open
  by_cases hc : Srt.zo3 caps
  case neg =>
    have e : Srt.zd0 caps s l = (Srt.M.new 0 0, 290) := by unfold Srt.zd0; rw [if_pos hc]
    rw [e]
    refine zd8 Try.func50 rfl Try.ntmps50 rfl (Rep.start w) ?_
    repeat' (first | ((first | ((apply t8 (f := 60)); exact rfl) | ((apply t9 (f := 60)); exact rfl; kernel_rfl; exact rfl; exact sJ_)); exact eV_; exact (fun w hw => yu3 hc w (h.keep hw (by exact aO_)))) | ((first | apply w9 | apply y8 | apply p4); exact rfl; exact rfl) | (apply zd5; exact rfl; exact rfl) | (apply o7; exact rfl; intro _) | (apply q7; first | refine q8 (h := ?_) | refine q9 (h := ?_)) | (apply g7; first | refine a8 (h := ?_)) | ((first | apply s9 | apply x9 | apply z8 | apply s7 | apply s8 | apply w4 | apply z9 | apply w5)) | (apply v8; exact rfl; exact tT_) | ((first | apply w6 | apply z6 | apply z0 | apply p5 | apply y0 | apply z7)))
    apply p8; apply zf9 Try.results50; exact rV_; exact rV_; intro w' hw
    exact ⟨_, [], rfl, ⟨_, rfl, passOW.zero, by simp⟩, hw.sub (by exact hS_), by simp⟩
  by_cases hs : s < 0 ∨ 1000 < s
  · have e : Srt.zd0 caps s l = (Srt.M.new 0 0, 2) := by unfold Srt.zd0; rw [if_neg (fun g => g hc), if_pos hs]
    rw [e]
    refine zd8 Try.func50 rfl Try.ntmps50 rfl (Rep.start w) ?_
    repeat' (first | ((first | ((apply t8 (f := 60)); exact rfl) | ((apply t9 (f := 60)); exact rfl; kernel_rfl; exact rfl; exact sJ_)); exact eV_; exact (fun w hw => zJ8 hc w (h.keep hw (by exact aO_)))) | ((first | apply w9 | apply y8 | apply p4); exact rfl; exact rfl) | ((first | apply p3 | apply o8 | apply l8); exact rfl; exact rfl; exact rfl) | (apply zd5; exact rfl; exact rfl) | (apply n8; exact rfl; exact tT_; exact rfl; exact rfl) | (apply p9; exact rfl; exact fF_; exact rfl; exact rfl) | (apply o7; exact rfl; intro _) | (apply q7; first | refine q8 (h := ?_) | refine q9 (h := ?_)) | (apply g7; first | refine a8 (h := ?_)) | ((first | apply k9); exact rfl; exact gG_) | (apply za5; exact rfl; exact gG_; exact rfl) | ((first | apply s9 | apply x9 | apply z8 | apply s7 | apply s8 | apply w4 | apply z9 | apply w5)) | (apply v8; exact rfl; exact tT_) | (apply v9; exact rfl; exact fF_) | ((first | apply w6 | apply z6 | apply z0 | apply p5 | apply y0 | apply z7)) | (apply zd3; exact rfl; intro hcond; rotate_left; intro hcond; rotate_left))
    all_goals first
      | (exfalso; omega)
      | (apply p8; apply zf9 Try.results50; exact rV_; exact rV_; intro w' hw; exact ⟨_, [], rfl, ⟨_, rfl, passOW.zero, by simp⟩, hw.sub (by exact hS_), by simp⟩)
  obtain ⟨k, hk⟩ : ∃ k, Srt.zp0 caps.length l = k := ⟨_, rfl⟩
  by_cases hk0 : k = 0
  case neg =>
    have e : Srt.zd0 caps s l = (Srt.M.new 0 0, k) := by unfold Srt.zd0; rw [if_neg (fun g => g hc), if_neg hs, if_pos (by rw [hk]; exact hk0), hk]
    rw [e]
    refine zd8 Try.func50 rfl Try.ntmps50 rfl (Rep.start w) ?_
    repeat' (first | ((first | ((apply t8 (f := 60)); exact rfl) | ((apply t9 (f := 60)); exact rfl; kernel_rfl; exact rfl; exact sJ_)); exact eV_; exact (fun w hw => zJ8 hc w (h.keep hw (by exact aO_)))) | ((first | ((apply t8 (f := 61)); exact rfl) | ((apply t9 (f := 61)); exact rfl; kernel_rfl; exact rfl; exact sJ_)); exact eV_; exact (fun w hw => yv0 hk w (hl.keep hw (by exact aO_)))) | ((first | apply w9 | apply y8 | apply p4); exact rfl; exact rfl) | ((first | apply p3 | apply o8 | apply l8); exact rfl; exact rfl; exact rfl) | (apply zd5; exact rfl; exact rfl) | (apply p9; exact rfl; exact fF_; exact rfl; exact rfl) | (apply o7; exact rfl; intro _) | (apply q7; first | refine q8 (h := ?_) | refine q9 (h := ?_)) | (apply g7; first | refine a8 (h := ?_)) | (apply o9; infer_instance; exact rfl; exact rfl) | ((first | apply k9); exact rfl; exact gG_) | ((first | apply s9 | apply x9 | apply z8 | apply s7 | apply s8 | apply w4 | apply z9 | apply w5)) | (apply v8; exact rfl; exact tT_) | (apply v9; exact rfl; exact fF_) | ((first | apply w6 | apply z6 | apply z0 | apply p5 | apply y0 | apply z7)))
    apply p8; apply zf9 Try.results50; exact rV_; exact rV_; intro w' hw
    exact ⟨_, [], rfl, ⟨_, rfl, passOW.zero, by simp⟩, hw.sub (by exact hS_), by simp⟩
  subst hk0
  have e : Srt.zd0 caps s l = (Srt.za2 caps s l, 0) := by unfold Srt.zd0; rw [if_neg (fun g => g hc), if_neg hs, if_neg (by rw [hk]; simp)]
  rw [e]
  have hbig : l.length ≤ 2000 := by
    unfold Srt.zp0 at hk
    split at hk
    · cases hk
    · omega
  have hok : ∀ f ∈ l, f.st < caps.length := by
    unfold Srt.zp0 at hk
    rw [if_neg (by omega)] at hk
    split at hk
    · cases hk
    · rename_i hb
      have := (Srt.zy5.1 (by simpa using hb)).1
      exact fun f hf => (this f hf).2.2
  refine zd8 Try.func50 rfl Try.ntmps50 rfl (Rep.start w) ?_
  repeat' (first | ((first | ((apply t8 (f := 60)); exact rfl) | ((apply t9 (f := 60)); exact rfl; kernel_rfl; exact rfl; exact sJ_)); exact eV_; exact (fun w hw => zJ8 hc w (h.keep hw (by exact aO_)))) | ((first | ((apply t8 (f := 61)); exact rfl) | ((apply t9 (f := 61)); exact rfl; kernel_rfl; exact rfl; exact sJ_)); exact eV_; exact (fun w hw => yv0 hk w (hl.keep hw (by exact aO_)))) | ((first | ((apply f5 (f := 62)); exact rfl) | ((apply d6 (f := 62)); exact rfl; exact rfl; exact sJ_)); exact eV_; exact (fun w hw => yk5 w (h.keep hw (by exact aO_)) (hl.keep hw (by exact aO_)) hc.1.2 (by omega) hok (by omega)); rintro v N ⟨a1, c1, a2, c2, a3, c3, a4, c4, a5, c5, ss, N1, M1, N2, N3, N4, N5, rfl, g1, g2, g3, g4, g5, g6, rfl⟩ <;> (try simp only [List.cons_append, List.nil_append, List.append_assoc])) | ((first | apply w9 | apply y8 | apply p4); exact rfl; exact rfl) | ((first | apply p3 | apply o8 | apply l8); exact rfl; exact rfl; exact rfl) | (apply zd5; exact rfl; exact rfl) | (apply p9; exact rfl; exact fF_; exact rfl; exact rfl) | (apply o7; exact rfl; intro _) | (apply q7; first | refine q8 (h := ?_) | refine q9 (h := ?_)) | (apply o9; infer_instance; exact rfl; exact rfl) | ((first | apply k9); exact rfl; exact gG_) | ((first | apply s9 | apply x9 | apply z8 | apply s7 | apply s8 | apply w4 | apply z9 | apply w5)) | (apply v9; exact rfl; exact fF_) | ((first | apply w6 | apply z6 | apply z0 | apply p5 | apply y0 | apply z7)))
  have hp : passOW (Srt.za2 caps s l) _ _ := ⟨a1, c1, a2, c2, a3, c3, a4, c4, a5, c5, ss, N1, M1, N2, N3, N4, N5, rfl, g1, g2, g3, g4, g5, g6, rfl⟩
  have o1 := g1.own
  have o2 := g2.own
  have o3 := g3.own
  have o4 := g4.own
  have o5 := g5.own
  have o6 := g6.own
  apply p8; apply zf9 Try.results50; exact rV_; exact rV_; intro w' hw
  exact ⟨_, _, rfl, ⟨_, rfl, hp, hp.own⟩, hw.sub (by exact hS_), hp.own⟩
end Go.Proofs.Ytdahckhlfldkkaa
namespace Go.Sx.Plt
structure Sh where
  f : Int
  t : Int
  deriving DecidableEq
structure Job where
  id : Int
  rel : Int
  due : Int
  mins : Int
  deriving DecidableEq
structure zb6 where
  id : Int
  sweeps : Int
  rate : Int
  caps : List Int
  shifts : List Sh
  deriving DecidableEq
structure Item where
  id : Int
  stop : Int
  batch : Int
  deriving DecidableEq
structure Row where
  stop : Int
  st : Int
  deriving DecidableEq
structure za3 where
  id : Int
  mach : Int
  rel : Int
  src : List (Int × Int)
  table : List Row
  unread : List Int
  deriving DecidableEq
structure g8 where
  ms : List zb6
  items : List Item
  passes : List za3
  deriving DecidableEq
def yN0 : Int := 1051898399
def zB5 (n : Int) : Prop := 1 ≤ n ∧ n ≤ 999999
instance (n : Int) : Decidable (zB5 n) := by unfold zB5; infer_instance
def Job.ok (j : Job) : Prop := ((1 ≤ j.id ∧ j.id ≤ 999999) ∧ (1 ≤ j.mins ∧ j.mins ≤ 100000)) ∧ ((0 ≤ j.rel ∧ j.rel ≤ 1051898399) ∧ (0 ≤ j.due ∧ j.due ≤ 1051898399))
instance (j : Job) : Decidable j.ok := by unfold Job.ok; infer_instance
def zr7 : List Int → Nat → List Job → Option Nat
  | _, _, [] => none
  | met, i, j :: r => if j.ok ∧ j.id ∉ met then zr7 (met ++ [j.id]) (i + 1) r else some i
def Sh.ok (before : Int) (s : Sh) : Prop := before ≤ s.f ∧ s.f < s.t ∧ s.t ≤ 1051898399
instance (b : Int) (s : Sh) : Decidable (s.ok b) := by unfold Sh.ok; infer_instance
def zi8 : Int → Nat → List Sh → Option Nat
  | _, _, [] => none
  | b, i, s :: r => if s.ok b then zi8 s.t (i + 1) r else some i
def zb7 (jobs : List Job) (shifts : List Sh) : Nat × Int :=
  if 200 < jobs.length ∨ 200 < shifts.length then (0, 5) else
  match zr7 [] 0 jobs with
  | some i => (i, 300)
  | none => match zi8 0 0 shifts with
    | some i => (i, 301)
    | none => (0, 0)
def zi1 (m : zb6) : Prop := zB5 m.id ∧ (1 ≤ m.rate ∧ m.rate ≤ 1000) ∧ (Srt.zd0 m.caps m.sweeps []).2 = 0 ∧ (zb7 [] m.shifts).2 = 0
instance (m : zb6) : Decidable (zi1 m) := by unfold zi1; infer_instance
def zf8 : List Int → Nat → List zb6 → Option Nat
  | _, _, [] => none
  | met, i, m :: r => if m.id ∉ met ∧ zi1 m then zf8 (met ++ [m.id]) (i + 1) r else some i
def Item.ok (x : Item) : Prop := zB5 x.id ∧ 1 ≤ x.batch ∧ x.batch ≤ 100
instance (x : Item) : Decidable x.ok := by unfold Item.ok; infer_instance
def zg5 : List Int → Nat → List Item → Option Nat
  | _, _, [] => none
  | met, i, x :: r => if x.ok ∧ x.id ∉ met then zg5 (met ++ [x.id]) (i + 1) r else some i
def zi9 (ps : List (Int × Int)) (s : Int × Int) : Prop := if s.1 = 0 then 1 ≤ s.2 ∧ s.2 ≤ 100 else match asF s.1 ps with
  | none => False
  | some n => 0 ≤ s.2 ∧ s.2 < n
instance (ps : List (Int × Int)) (s : Int × Int) : Decidable (zi9 ps s) := by
  unfold zi9
  split
  · infer_instance
  · split <;> infer_instance
def zg1 (ps : List (Int × Int)) : List (Int × Int) → List (Int × Int) → Prop
  | _, [] => True
  | tk, s :: r => (zi9 ps s ∧ s ∉ tk) ∧ zg1 ps (tk ++ [s]) r
def yn2 (ps : List (Int × Int)) : (tk l : List (Int × Int)) → Decidable (zg1 ps tk l)
  | _, [] => .isTrue trivial
  | tk, s :: r => by
    unfold zg1
    have := yn2 ps (tk ++ [s]) r
    infer_instance
instance (ps tk l : List (Int × Int)) : Decidable (zg1 ps tk l) := yn2 ps tk l
def zf6 (n : Int) : List Int → List Row → Prop
  | _, [] => True
  | met, e :: r => (e.stop ∉ met ∧ 0 ≤ e.st ∧ e.st < n) ∧ zf6 n (met ++ [e.stop]) r
def yn1 (n : Int) : (met : List Int) → (l : List Row) → Decidable (zf6 n met l)
  | _, [] => .isTrue trivial
  | met, e :: r => by
    unfold zf6
    have := yn1 n (met ++ [e.stop]) r
    infer_instance
instance (n : Int) (met : List Int) (l : List Row) : Decidable (zf6 n met l) := yn1 n met l
def zB3 (msl ps : List (Int × Int)) (y : za3) : Prop := (asF y.id ps = none ∧ (asF y.mach msl).isSome = true) ∧ zB5 y.id ∧ 0 ≤ y.rel ∧ y.rel ≤ 1051898399
instance (msl ps : List (Int × Int)) (y : za3) : Decidable (zB3 msl ps y) := by unfold zB3; infer_instance
def zh1 (msl ps tk : List (Int × Int)) (y : za3) : Prop := zB3 msl ps y ∧ zg1 ps tk y.src ∧ (y.table.length ≤ 1000 ∧ y.unread.length ≤ 2000) ∧ zf6 ((asF y.mach msl).getD 0) [] y.table
instance (msl ps tk : List (Int × Int)) (y : za3) : Decidable (zh1 msl ps tk y) := by unfold zh1; infer_instance
def zf7 (msl : List (Int × Int)) : List (Int × Int) → List (Int × Int) → Nat → List za3 → Option Nat
  | _, _, _, [] => none
  | ps, tk, i, y :: r => if zh1 msl ps tk y then zf7 msl (ps ++ [(y.id, (asF y.mach msl).getD 0)]) (tk ++ y.src) (i + 1) r else some i
def zf5 (ms : List zb6) : List (Int × Int) := ms.map fun m => (m.id, (m.caps.length : Int))
def zc6 (p : g8) : Nat × Int :=
  if 20 < p.ms.length ∨ 2000 < p.items.length ∨ 60 < p.passes.length then (0, 5) else
  match zf8 [] 0 p.ms with
  | some i => (i, 310)
  | none => match zg5 [] 0 p.items with
    | some i => (i, 311)
    | none => match zf7 (zf5 p.ms) [] [] 0 p.passes with
      | some i => (i, 312)
      | none => (0, 0)
structure Run where
  pass : Int
  start : Int
  fin : Int
  items : List Int
  slices : List (Int × Int)
  res : Srt.M
def g9 (rel : Int) : Int → List Sh → List (Int × Int)
  | _, [] => []
  | left, s :: r => if left = 0 ∨ s.t ≤ max s.f rel then g9 rel left r else (max s.f rel, min s.t (max s.f rel + left)) :: g9 rel (left - (min s.t (max s.f rel + left) - max s.f rel)) r
def zb8 : List (Int × Int) → Int
  | [] => 0
  | s :: r => (s.2 - s.1) + zb8 r
structure Hall where
  rows : List ((Int × Int) × List Int)
  ends : List (Int × Int)
  free : List (Int × Int)
def Hall.row (h : Hall) (s : Int × Int) : List Int := (asF s h.rows).getD []
def missed (y : za3) : Run := ⟨y.id, -1, -1, [], [], Srt.M.new 0 0⟩
def za4 (h : Hall) : Int → List Int → List (Int × Int) → Option (Int × List Int)
  | ready, acc, [] => some (ready, acc)
  | ready, acc, s :: r => if s.1 ≠ 0 then
      match asF s.1 h.ends with
      | none => none
      | some e => za4 h (max ready e) (acc ++ h.row s) r
    else za4 h ready (acc ++ h.row s) r
def zg9 (l : List Row) : List (Int × Int) := l.foldl (fun m e => ze8 e.stop e.st m) []
def zb9 (stops : List (Int × Int)) (y : za3) (x : Int) : Srt.Fd :=
  match asF ((asF x stops).getD 0) (zg9 y.table) with
  | some k => ⟨x, if x ∈ y.unread then -1 else k⟩
  | none => ⟨x, -1⟩
def zb3 (n : Nat) (rate : Int) : Int := ((n : Int) + rate - 1) / rate
def zf1 {V : Type} (id : Int) : Nat → List V → List ((Int × Int) × V) → List ((Int × Int) × V)
  | _, [], m => m
  | k, l :: r, m => zf1 id (k + 1) r (ze8 (id, (k : Int)) l m)
def zd0 (h : Hall) (m : zb6) (stops : List (Int × Int)) (y : za3) : Run × Hall :=
  match za4 h (max y.rel ((asF m.id h.free).getD 0)) [] y.src with
  | none => (missed y, h)
  | some (ready, items) =>
    let sl := if items = [] then [] else g9 ready (zb3 items.length m.rate) m.shifts
    if items ≠ [] ∧ (sl = [] ∨ zb8 sl < zb3 items.length m.rate) then (missed y, h) else
    let start := if items = [] then ready else (sl.headD (0, 0)).1
    let fin := if items = [] then ready else (sl.getLastD (0, 0)).2
    let res := Srt.zd0 m.caps m.sweeps (items.map (zb9 stops y))
    if res.2 ≠ 0 then (missed y, h) else
    (⟨y.id, start, fin, items, sl, res.1⟩, ⟨zf1 y.id 0 res.1.stackers h.rows, ze8 y.id fin h.ends, ze8 m.id fin h.free⟩)
def za1 : List ((Int × Int) × List Int) → List Item → List ((Int × Int) × List Int)
  | m, [] => m
  | m, x :: r => za1 (ze8 (0, x.batch) ((asF (0, x.batch) m).getD [] ++ [x.id]) m) r
def zc0 (l : List Item) : List (Int × Int) := l.foldl (fun m x => ze8 x.id x.stop m) []
def zr8 (ms : List zb6) (id : Int) : zb6 := (ms.find? fun m => m.id = id).getD ⟨0, 0, 0, [], []⟩
def zS1 (ms : List zb6) (stops : List (Int × Int)) : Hall → List za3 → List Run
  | _, [] => []
  | h, y :: r => (zd0 h (zr8 ms y.mach) stops y).1 :: zS1 ms stops (zd0 h (zr8 ms y.mach) stops y).2 r
def zx3 (p : g8) : Hall := ⟨za1 [] p.items, [], []⟩
def za2 (p : g8) : List Run := zS1 p.ms (zc0 p.items) (zx3 p) p.passes
end Go.Sx.Plt
namespace Go.Proofs.Ytdahckhlfldkkaa
open Go Go.Sx Go.RowKit
attribute [local irreducible] WL WC WQ WR WB WF QB St Exit.then Exit.inBlock Exit.noGoto bodyPost roundPost zc1 YR RG BM Calls B zc7 ze3
def zs8 (s : Plt.Sh) : List Value := [.int .i64 s.f, .int .i64 s.t]
theorem zw6 : ∀ x, (zs8 x).length = 2 := fun _ => rfl
theorem yq0 : ∀ x, (zs8 x).all (·.oneCell') = true := fun _ => rfl
def zs7 (j : Plt.Job) : List Value := [.int .i64 j.id, .int .i64 j.rel, .int .i64 j.due, .int .i64 j.mins]
theorem zF8 : ∀ x, (zs7 x).length = 4 := fun _ => rfl
def zZ0 : Option Nat → Value
  | none => .tuple #[.int .i64 0, .bool false]
  | some i => .tuple #[.int .i64 i, .bool true]
theorem zT0 {v : Value} {l : List Plt.Job} (w : World) (h : SV w 4 zs7 v l) : Calls Try.prog 71 #[v] w fun e w' => e = .returned (zZ0 (Plt.zr7 [] 0 l)) ∧ Below w.heap.size w w' := by
  obtain ⟨a0, ca, rfl, hca, hop⟩ := h.open
  refine zd2 Try.func71 rfl Try.ntmps71 rfl (Rep.start w) ?_
  repeat' (first | ((first | apply w9 | apply y8 | apply x8); exact rfl; exact rfl) | (apply o9; infer_instance; exact rfl; exact rfl) | (apply zm0; infer_instance; exact rfl; exact rfl; intro _) | ((first | apply s9 | apply x9 | apply z8 | apply s7 | apply s8 | apply w4 | apply z9 | apply w5)) | ((first | apply w6 | apply z6 | apply z0 | apply p5 | apply y0 | apply z7)))
  rename_i bm
  apply j9 (σ := Nat) (Fs := fun i => [(12, .int .i64 i), (11, .int .i64 l.length), (10, .slice a0 l.length ca), (4, .map (some bm))])
    (Ls := fun i => [⟨bm, MO (zx9 .i64 ((l.take i).map Plt.Job.id)), true⟩]) (I := fun i => i ≤ l.length ∧ ((l.take i).map Plt.Job.id).Nodup ∧ Plt.zr7 [] 0 l = Plt.zr7 ((l.take i).map Plt.Job.id) i (l.drop i)) (μ := fun i => l.length - i) (s0 := 0)
  · exact ⟨Nat.zero_le _, by simp, by simp⟩
  · exact fS_
  · exact hS_
  rintro i ⟨hi, hnd, hw0⟩
  by_cases hlt : i < l.length
  · obtain ⟨⟨id, re, du, mi⟩, hx⟩ : ∃ s, l[i]? = some s := ⟨_, List.getElem?_eq_getElem hlt⟩
    obtain ⟨b, off, cc, e, fz, rfl, hk, hp⟩ := hop (by omega)
    have h1 : ∀ j u, ([.int .i64 id, .int .i64 re, .int .i64 du, .int .i64 mi] : List Value)[j]? = some u → cc[off + i * 4 + j]? = some u := hp.get hx
    rw [drop_at hx, Plt.zr7] at hw0
    have e1 : (l.take (i + 1)).map Plt.Job.id = (l.take i).map Plt.Job.id ++ [id] := by rw [take_snoc hx]; simp
    unfold Plt.Job.ok at hw0
    dsimp only at hw0
    generalize (l.take i).map Plt.Job.id = met at hnd hw0 e1 ⊢
    by_cases hm : id ∈ met
    · rw [if_neg (fun h => h.2 hm)] at hw0
      rw [hw0]
      as_aux_lemma =>
        repeat' (first | ((first | apply w9 | apply y8 | apply x8); exact rfl; exact rfl) | (apply w7; first | refine u9 (h := ?_) | refine y9 (h := ?_) | refine w8 (h := ?_) | refine q6 (h := ?_) | refine q0 (h := ?_)) | ((first | apply p3 | apply o8); exact rfl; exact rfl; exact rfl) | (apply n8; exact rfl; exact tT_; exact rfl; exact rfl) | (apply p9; exact rfl; exact fF_; exact rfl; exact rfl) | ((first | apply o7 | apply c8); exact rfl; intro _) | (apply q7; first | refine q8 (h := ?_) | refine q9 (h := ?_)) | (apply zg7; refine zk5 (h := ?_)) | (apply m8; infer_instance; infer_instance; exact rfl; exact rfl; (first | exact rfl | omega); exact rfl; (first | assumption | omega | decide)) | ((first | apply k9); exact rfl; exact gG_) | (apply za5; exact rfl; exact gG_; exact rfl) | ((first | apply s9 | apply x9 | apply z8 | apply s7 | apply s8 | apply w4 | apply z9 | apply w5)) | (apply v8; exact rfl; exact tT_) | ((first | apply w6 | apply z6 | apply z0 | apply p5 | apply y0 | apply z7)) | (apply zd3; exact rfl; intro hcond; rotate_left; intro hcond; rotate_left))
        all_goals first
          | (exfalso; omega)
          | (apply p8; apply zf9 Try.results71; exact rV_; exact rV_; intro w' hw; exact ⟨rfl, hw.below (by simp)⟩)
    by_cases hok : ((1 ≤ id ∧ id ≤ 999999) ∧ 1 ≤ mi ∧ mi ≤ 100000) ∧ (0 ≤ re ∧ re ≤ 1051898399) ∧ 0 ≤ du ∧ du ≤ 1051898399
    · rw [if_pos ⟨hok, hm⟩] at hw0
      as_aux_lemma =>
        repeat' (first | ((first | apply w9 | apply y8 | apply x8); exact rfl; exact rfl) | (apply w7; first | refine u9 (h := ?_) | refine y9 (h := ?_) | refine w8 (h := ?_) | refine q6 (h := ?_) | refine q0 (h := ?_)) | ((first | apply p3 | apply o8); exact rfl; exact rfl; exact rfl) | (apply j0; exact rfl; exact rfl; exact rfl; (constructor <;> omega)) | (apply p9; exact rfl; exact fF_; exact rfl; exact rfl) | ((first | apply o7 | apply c8); exact rfl; intro _) | (apply q7; first | refine q8 (h := ?_) | refine q9 (h := ?_)) | (apply zg7; refine zk5 (h := ?_)) | (apply zq1; refine zA1 (h := ?_)) | (apply m8; infer_instance; infer_instance; exact rfl; exact rfl; (first | exact rfl | omega); exact rfl; (first | assumption | omega | decide)) | ((first | apply k9); exact rfl; exact gG_) | ((first | apply s9 | apply x9 | apply z8 | apply s7 | apply s8 | apply w4 | apply z9 | apply w5)) | (apply v8; exact rfl; exact tT_) | (apply v9; exact rfl; exact fF_) | ((first | apply w6 | apply z6 | apply z0 | apply p5 | apply y0 | apply z7)))
        all_goals first
          | (exfalso; omega)
          | skip
        refine o0 (i + 1) ⟨by omega, ?_, ?_⟩ (by omega) ?_ ?_
        · rw [e1, List.nodup_append]
          refine ⟨hnd, by simp, fun a ha b hb e => ?_⟩
          simp at hb; subst hb; subst e; exact hm ha
        · rw [e1]; exact hw0
        · exact fS_
        · simp only [e1]; exact hS_
    · rw [if_neg (fun h => hok h.1)] at hw0
      rw [hw0]
      as_aux_lemma =>
        repeat' (first | ((first | apply w9 | apply y8 | apply x8); exact rfl; exact rfl) | (apply w7; first | refine u9 (h := ?_) | refine y9 (h := ?_) | refine w8 (h := ?_) | refine q6 (h := ?_) | refine q0 (h := ?_)) | ((first | apply p3 | apply o8); exact rfl; exact rfl; exact rfl) | (apply n8; exact rfl; exact tT_; exact rfl; exact rfl) | (apply p9; exact rfl; exact fF_; exact rfl; exact rfl) | ((first | apply o7 | apply c8); exact rfl; intro _) | (apply q7; first | refine q8 (h := ?_) | refine q9 (h := ?_)) | (apply zg7; refine zk5 (h := ?_)) | (apply m8; infer_instance; infer_instance; exact rfl; exact rfl; (first | exact rfl | omega); exact rfl; (first | assumption | omega | decide)) | ((first | apply k9); exact rfl; exact gG_) | (apply za5; exact rfl; exact gG_; exact rfl) | ((first | apply s9 | apply x9 | apply z8 | apply s7 | apply s8 | apply w4 | apply z9 | apply w5)) | (apply v8; exact rfl; exact tT_) | ((first | apply w6 | apply z6 | apply z0 | apply p5 | apply y0 | apply z7)) | (apply yu2; exact rfl; intro hcond; rotate_left; intro hcond; rotate_left) | (apply zd3; exact rfl; intro hcond; rotate_left; intro hcond; rotate_left))
        all_goals first
          | (exfalso; omega)
          | (apply p8; apply zf9 Try.results71; exact rV_; exact rV_; intro w' hw; exact ⟨rfl, hw.below (by simp)⟩)
  rw [List.drop_of_length_le (by omega), Plt.zr7] at hw0
  rw [hw0]
  repeat' (first | ((first | apply w9 | apply y8 | apply x8); exact rfl; exact rfl) | ((first | apply p3 | apply o8); exact rfl; exact rfl; exact rfl) | ((first | apply s9 | apply x9 | apply z8 | apply s7 | apply s8 | apply w4 | apply z9 | apply w5)) | (apply v9; exact rfl; exact fF_) | ((first | apply w6 | apply z6 | apply z0 | apply p5 | apply y0 | apply z7)))
  apply p8; apply zf9 Try.results71; exact rV_; exact rV_; intro w' hw
  exact ⟨rfl, hw.below (by simp)⟩
def zt5 : List Plt.Sh → Int
  | [] => 0
  | s :: r => (r.getLastD s).t
theorem zG1 (l : List Plt.Sh) (s : Plt.Sh) : zt5 (l ++ [s]) = s.t := by
  cases l with
  | nil => rfl
  | cons a r => simp [zt5]
theorem zL8 {v : Value} {l : List Plt.Sh} (w : World) (h : SV w 2 zs8 v l) : Calls Try.prog 72 #[v] w fun e w' => e = .returned (zZ0 (Plt.zi8 0 0 l)) ∧ Below w.heap.size w w' := by
  obtain ⟨a0, ca, rfl, hca, hop⟩ := h.open
  refine zd2 Try.func72 rfl Try.ntmps72 rfl (Rep.start w) ?_
  repeat' (first | ((first | apply w9 | apply y8 | apply x8); exact rfl; exact rfl) | (apply o9; infer_instance; exact rfl; exact rfl) | ((first | apply s9 | apply x9 | apply z8 | apply s7 | apply s8 | apply w4 | apply z9 | apply w5)) | ((first | apply w6 | apply z6 | apply z0 | apply p5 | apply y0 | apply z7)))
  apply j9 (σ := Nat) (Fs := fun i => [(9, .int .i64 i), (8, .int .i64 l.length), (7, .slice a0 l.length ca), (4, .int .i64 (zt5 (l.take i)))])
    (Ls := fun i => []) (I := fun i => i ≤ l.length ∧ Plt.zi8 0 0 l = Plt.zi8 (zt5 (l.take i)) i (l.drop i)) (μ := fun i => l.length - i) (s0 := 0)
  · exact ⟨Nat.zero_le _, by simp [zt5]⟩
  · exact fS_
  · exact hS_
  rintro i ⟨hi, hw0⟩
  by_cases hlt : i < l.length
  · obtain ⟨⟨f, t⟩, hx⟩ : ∃ s, l[i]? = some s := ⟨_, List.getElem?_eq_getElem hlt⟩
    obtain ⟨b, off, cc, e, fz, rfl, hk, hp⟩ := hop (by omega)
    have h1 : ∀ j u, ([.int .i64 f, .int .i64 t] : List Value)[j]? = some u → cc[off + i * 2 + j]? = some u := hp.get hx
    have e1 : zt5 (l.take (i + 1)) = t := by rw [take_snoc hx, zG1]
    rw [drop_at hx, Plt.zi8] at hw0
    generalize zt5 (l.take i) = bf at hw0 ⊢
    by_cases hok : Plt.Sh.ok bf ⟨f, t⟩
    · rw [if_pos hok] at hw0
      unfold Plt.Sh.ok at hok
      dsimp only at hok hw0
      as_aux_lemma =>
        repeat' (first | ((first | apply w9 | apply y8 | apply x8); exact rfl; exact rfl) | (apply w7; first | refine u9 (h := ?_) | refine y9 (h := ?_) | refine w8 (h := ?_) | refine q6 (h := ?_) | refine q0 (h := ?_)) | ((first | apply p3 | apply zc8 | apply o8); exact rfl; exact rfl; exact rfl) | (apply j0; exact rfl; exact rfl; exact rfl; (constructor <;> omega)) | (apply p9; exact rfl; exact fF_; exact rfl; exact rfl) | (apply o7; exact rfl; intro _) | (apply q7; first | refine q8 (h := ?_) | refine q9 (h := ?_)) | (apply m8; infer_instance; infer_instance; exact rfl; exact rfl; (first | exact rfl | omega); exact rfl; (first | assumption | omega | decide)) | ((first | apply k9); exact rfl; exact gG_) | ((first | apply s9 | apply x9 | apply z8 | apply s7 | apply s8 | apply w4 | apply z9 | apply w5)) | (apply v8; exact rfl; exact tT_) | (apply v9; exact rfl; exact fF_) | ((first | apply w6 | apply z6 | apply z0 | apply p5 | apply y0 | apply z7)))
        all_goals first
          | (exfalso; omega)
          | skip
        refine o0 (i + 1) ⟨by omega, by rw [e1]; exact hw0⟩ (by omega) ?_ ?_
        · (try dsimp only); rw [e1]; exact fS_
        · exact hS_
    · rw [if_neg hok] at hw0
      rw [hw0]
      unfold Plt.Sh.ok at hok
      dsimp only at hok
      as_aux_lemma =>
        repeat' (first | ((first | apply w9 | apply y8 | apply x8); exact rfl; exact rfl) | (apply w7; first | refine u9 (h := ?_) | refine y9 (h := ?_) | refine w8 (h := ?_) | refine q6 (h := ?_) | refine q0 (h := ?_)) | ((first | apply p3 | apply zc8 | apply o8); exact rfl; exact rfl; exact rfl) | (apply n8; exact rfl; exact tT_; exact rfl; exact rfl) | (apply p9; exact rfl; exact fF_; exact rfl; exact rfl) | (apply o7; exact rfl; intro _) | (apply q7; first | refine q8 (h := ?_) | refine q9 (h := ?_)) | (apply m8; infer_instance; infer_instance; exact rfl; exact rfl; (first | exact rfl | omega); exact rfl; (first | assumption | omega | decide)) | ((first | apply k9); exact rfl; exact gG_) | (apply za5; exact rfl; exact gG_; exact rfl) | ((first | apply s9 | apply x9 | apply z8 | apply s7 | apply s8 | apply w4 | apply z9 | apply w5)) | (apply v8; exact rfl; exact tT_) | ((first | apply w6 | apply z6 | apply z0 | apply p5 | apply y0 | apply z7)) | (apply zd3; exact rfl; intro hcond; rotate_left; intro hcond; rotate_left))
        all_goals first
          | (exfalso; omega)
          | (apply p8; apply zf9 Try.results72; exact rV_; exact rV_; intro w' hw; exact ⟨rfl, hw.below (by simp)⟩)
  rw [List.drop_of_length_le (by omega), Plt.zi8] at hw0
  rw [hw0]
  repeat' (first | ((first | apply w9 | apply y8 | apply x8); exact rfl; exact rfl) | ((first | apply p3 | apply zc8 | apply o8); exact rfl; exact rfl; exact rfl) | ((first | apply s9 | apply x9 | apply z8 | apply s7 | apply s8 | apply w4 | apply z9 | apply w5)) | (apply v9; exact rfl; exact fF_) | ((first | apply w6 | apply z6 | apply z0 | apply p5 | apply y0 | apply z7)))
  apply p8; apply zf9 Try.results72; exact rV_; exact rV_; intro w' hw
  exact ⟨rfl, hw.below (by simp)⟩
theorem zL7 {jv : Value} {jobs : List Plt.Job} {r : Option Nat} (h : Plt.zr7 [] 0 jobs = r) (w : World) (hj : SV w 4 zs7 jv jobs) : Calls Try.prog 71 #[jv] w fun e w' => e = .returned (zZ0 r) ∧ Below w.heap.size w w' := by
  subst h; exact zT0 w hj
theorem zY4 {sv : Value} {l : List Plt.Sh} {r : Option Nat} (h : Plt.zi8 0 0 l = r) (w : World) (hj : SV w 2 zs8 sv l) : Calls Try.prog 72 #[sv] w fun e w' => e = .returned (zZ0 r) ∧ Below w.heap.size w w' := by
  subst h; exact zL8 w hj
theorem zT2 {jv sv : Value} {jobs : List Plt.Job} {shifts : List Plt.Sh} (w : World) (hj : SV w 4 zs7 jv jobs) (hs : SV w 2 zs8 sv shifts) :
    Calls Try.prog 63 #[jv, sv] w fun e w' => e = .returned (.tuple #[.int .i64 (Plt.zb7 jobs shifts).1, .int .i64 (Plt.zb7 jobs shifts).2]) ∧ Below w.heap.size w w' := by
  obtain ⟨a0, ca, rfl, hca, -⟩ := hj.open
  obtain ⟨a1, cb, rfl, hcb, -⟩ := hs.open
  by_cases hbig : 200 < jobs.length ∨ 200 < shifts.length
  · have e : Plt.zb7 jobs shifts = (0, 5) := by unfold Plt.zb7; rw [if_pos hbig]
    rw [e]
    refine za8 Try.func63 rfl Try.ntmps63 rfl (Rep.start w) ?_
    repeat' (first | ((first | apply w9 | apply y8); exact rfl; exact rfl) | ((first | apply o8 | apply p0); exact rfl; exact rfl; exact rfl) | (apply n8; exact rfl; exact tT_; exact rfl; exact rfl) | (apply p9; exact rfl; exact fF_; exact rfl; exact rfl) | (apply o9; infer_instance; exact rfl; exact rfl) | ((first | apply k9); exact rfl; exact gG_) | (apply za5; exact rfl; exact gG_; exact rfl) | ((first | apply s9 | apply x9 | apply z8 | apply s7 | apply s8 | apply w4 | apply z9 | apply w5)) | (apply v8; exact rfl; exact tT_) | ((first | apply w6 | apply z6 | apply z0 | apply p5 | apply y0 | apply z7)) | (apply zd3; exact rfl; intro hcond; rotate_left; intro hcond; rotate_left))
    all_goals first
      | (exfalso; omega)
      | (apply p8; apply zf9 Try.results63; exact rV_; exact rV_; intro w' hw; exact ⟨rfl, hw.below (by simp)⟩)
  cases h1 : Plt.zr7 [] 0 jobs with
  | some i =>
    have e : Plt.zb7 jobs shifts = (i, 300) := by unfold Plt.zb7; rw [if_neg hbig, h1]
    rw [e]
    refine za8 Try.func63 rfl Try.ntmps63 rfl (Rep.start w) ?_
    repeat' (first | (apply v9; exact rfl; exact dF_) | (apply p9; exact rfl; exact dF_; exact rfl; exact rfl) | (apply k9; exact rfl; exact dF_) | ((first | ((apply t8 (f := 71)); exact rfl) | ((apply t9 (f := 71)); exact rfl; kernel_rfl; exact rfl; exact sJ_)); exact eV_; exact (fun w hw => zL7 h1 w (hj.keep hw (by exact aO_)))) | ((first | apply w9 | apply y8); exact rfl; exact rfl) | ((first | apply o8 | apply p0); exact rfl; exact rfl; exact rfl) | (apply o9; infer_instance; exact rfl; exact rfl) | ((first | apply s9 | apply x9 | apply z8 | apply s7 | apply s8 | apply w4 | apply z9 | apply w5)) | (apply v8; exact rfl; exact tT_) | ((first | apply w6 | apply z6 | apply z0 | apply p5 | apply y0 | apply z7)))
    apply p8; apply zf9 Try.results63; exact rV_; exact rV_; intro w' hw
    exact ⟨rfl, hw.below (by simp)⟩
  | none =>
  cases h2 : Plt.zi8 0 0 shifts with
  | some i =>
    have e : Plt.zb7 jobs shifts = (i, 301) := by unfold Plt.zb7; rw [if_neg hbig, h1]; dsimp only; rw [h2]
    rw [e]
    refine za8 Try.func63 rfl Try.ntmps63 rfl (Rep.start w) ?_
    repeat' (first | (apply v9; exact rfl; exact dF_) | (apply p9; exact rfl; exact dF_; exact rfl; exact rfl) | (apply k9; exact rfl; exact dF_) | ((first | ((apply t8 (f := 71)); exact rfl) | ((apply t9 (f := 71)); exact rfl; kernel_rfl; exact rfl; exact sJ_)); exact eV_; exact (fun w hw => zL7 h1 w (hj.keep hw (by exact aO_)))) | ((first | ((apply t8 (f := 72)); exact rfl) | ((apply t9 (f := 72)); exact rfl; kernel_rfl; exact rfl; exact sJ_)); exact eV_; exact (fun w hw => zY4 h2 w (hs.keep hw (by exact aO_)))) | ((first | apply w9 | apply y8); exact rfl; exact rfl) | ((first | apply o8 | apply p0); exact rfl; exact rfl; exact rfl) | (apply o9; infer_instance; exact rfl; exact rfl) | ((first | apply s9 | apply x9 | apply z8 | apply s7 | apply s8 | apply w4 | apply z9 | apply w5)) | (apply v8; exact rfl; exact tT_) | (apply v9; exact rfl; exact fF_) | ((first | apply w6 | apply z6 | apply z0 | apply p5 | apply y0 | apply z7)))
    apply p8; apply zf9 Try.results63; exact rV_; exact rV_; intro w' hw
    exact ⟨rfl, hw.below (by simp)⟩
  | none =>
  have e : Plt.zb7 jobs shifts = (0, 0) := by unfold Plt.zb7; rw [if_neg hbig, h1]; dsimp only; rw [h2]
  rw [e]
  refine za8 Try.func63 rfl Try.ntmps63 rfl (Rep.start w) ?_
  repeat' (first | (apply v9; exact rfl; exact dF_) | (apply p9; exact rfl; exact dF_; exact rfl; exact rfl) | (apply k9; exact rfl; exact dF_) | ((first | ((apply t8 (f := 71)); exact rfl) | ((apply t9 (f := 71)); exact rfl; kernel_rfl; exact rfl; exact sJ_)); exact eV_; exact (fun w hw => zL7 h1 w (hj.keep hw (by exact aO_)))) | ((first | ((apply t8 (f := 72)); exact rfl) | ((apply t9 (f := 72)); exact rfl; kernel_rfl; exact rfl; exact sJ_)); exact eV_; exact (fun w hw => zY4 h2 w (hs.keep hw (by exact aO_)))) | ((first | apply w9 | apply y8); exact rfl; exact rfl) | ((first | apply o8 | apply p0); exact rfl; exact rfl; exact rfl) | (apply o9; infer_instance; exact rfl; exact rfl) | ((first | apply s9 | apply x9 | apply z8 | apply s7 | apply s8 | apply w4 | apply z9 | apply w5)) | (apply v9; exact rfl; exact fF_) | ((first | apply w6 | apply z6 | apply z0 | apply p5 | apply y0 | apply z7)))
  apply p8; apply zf9 Try.results63; exact rV_; exact rV_; intro w' hw
  exact ⟨rfl, hw.below (by simp)⟩
theorem zF3 {jv sv : Value} {jobs : List Plt.Job} {shifts : List Plt.Sh} {i : Nat} {k : Int} (he : Plt.zb7 jobs shifts = (i, k)) (w : World) (hj : SV w 4 zs7 jv jobs) (hs : SV w 2 zs8 sv shifts) :
    Calls Try.prog 63 #[jv, sv] w fun e w' => e = .returned (.tuple #[.int .i64 i, .int .i64 k]) ∧ Below w.heap.size w w' := by
  have := zT2 w hj hs; rw [he] at this; exact this
theorem yb0 {sv : Value} {shifts : List Plt.Sh} {i : Nat} {k : Int} (he : Plt.zb7 [] shifts = (i, k)) (w : World) (hs : SV w 2 zs8 sv shifts) :
    Calls Try.prog 51 #[.slice none 0 0, sv, .slice none 0 0] w fun e w' => e = .returned (.tuple #[.int .i64 i, .int .i64 k]) ∧ Below w.heap.size w w' := by
  have hi0 : k = 0 → i = 0 := fun hk => by
    subst hk
    unfold Plt.zb7 at he
    split at he
    · cases he
    · split at he
      · cases he
      · split at he
        · cases he
        · cases he; rfl
  obtain ⟨a1, cb, rfl, hcb, -⟩ := hs.open
  by_cases hk : k = 0
  case neg =>
    refine zd8 Try.func51 rfl Try.ntmps51 rfl (Rep.start w) ?_
    repeat' (first | (apply v8; exact rfl; exact dT_) | (apply v9; exact rfl; exact dF_) | ((first | ((apply t8 (f := 63)); exact rfl) | ((apply t9 (f := 63)); exact rfl; kernel_rfl; exact rfl; exact sJ_)); exact eV_; exact (fun w hw => zF3 he w (SV.nil : SV w 4 zs7 (.slice none 0 0) []) (hs.keep hw (by exact aO_)))) | ((first | apply w9 | apply y8 | apply x8 | apply p4); exact rfl; exact rfl) | ((first | apply p3 | apply o8 | apply d9 | apply l8 | apply p0); exact rfl; exact rfl; exact rfl) | (apply o9; infer_instance; exact rfl; exact rfl) | ((first | apply s9 | apply x9 | apply z8 | apply s7 | apply s8 | apply w4 | apply z9 | apply w5)) | ((first | apply w6 | apply z6 | apply z0 | apply p5 | apply y0 | apply z7)))
    apply p8; apply zf9 Try.results51; exact rV_; exact rV_; intro w' hw
    exact ⟨rfl, hw.below (by simp)⟩
  obtain rfl := hi0 hk
  subst hk
  refine zd8 Try.func51 rfl Try.ntmps51 rfl (Rep.start w) ?_
  repeat' (first | (apply v9; exact rfl; exact dF_) | ((first | ((apply t8 (f := 63)); exact rfl) | ((apply t9 (f := 63)); exact rfl; kernel_rfl; exact rfl; exact sJ_)); exact eV_; exact (fun w hw => zF3 he w (SV.nil : SV w 4 zs7 (.slice none 0 0) []) (hs.keep hw (by exact aO_)))) | ((first | apply w9 | apply y8 | apply x8 | apply p4); exact rfl; exact rfl) | ((first | apply p3 | apply o8 | apply d9 | apply l8 | apply p0); exact rfl; exact rfl; exact rfl) | (apply o9; infer_instance; exact rfl; exact rfl) | (apply zm0; infer_instance; exact rfl; exact rfl; intro _) | ((first | apply s9 | apply x9 | apply z8 | apply s7 | apply s8 | apply w4 | apply z9 | apply w5)) | ((first | apply w6 | apply z6 | apply z0 | apply p5 | apply y0 | apply z7)))
  apply j9 (σ := Unit) (Fs := fun _ => [(37, .int .i64 0), (36, .int .i64 0), (2, .slice none 0 0), (0, .slice none 0 0)]) (Ls := fun _ => []) (I := fun _ => True) (μ := fun _ => 0) (s0 := ())
  · trivial
  · exact fS_
  · exact hS_
  rintro ⟨⟩ -
  repeat' (first | (apply v9; exact rfl; exact dF_) | ((first | apply w9 | apply y8 | apply x8 | apply p4); exact rfl; exact rfl) | ((first | apply p3 | apply o8 | apply d9 | apply l8 | apply p0); exact rfl; exact rfl; exact rfl) | (apply o9; infer_instance; exact rfl; exact rfl) | (apply zm0; infer_instance; exact rfl; exact rfl; intro _) | ((first | apply s9 | apply x9 | apply z8 | apply s7 | apply s8 | apply w4 | apply z9 | apply w5)) | ((first | apply w6 | apply z6 | apply z0 | apply p5 | apply y0 | apply z7)))
  apply j9 (σ := Unit) (Fs := fun _ => [(51, .int .i64 0), (50, .int .i64 0)]) (Ls := fun _ => []) (I := fun _ => True) (μ := fun _ => 0) (s0 := ())
  · trivial
  · exact fS_
  · exact hS_
  rintro ⟨⟩ -
  repeat' (first | (apply v9; exact rfl; exact dF_) | ((first | apply w9 | apply y8 | apply x8 | apply p4); exact rfl; exact rfl) | ((first | apply p3 | apply o8 | apply d9 | apply l8 | apply p0); exact rfl; exact rfl; exact rfl) | ((first | apply s9 | apply x9 | apply z8 | apply s7 | apply s8 | apply w4 | apply z9 | apply w5)) | ((first | apply w6 | apply z6 | apply z0 | apply p5 | apply y0 | apply z7)))
  apply p8; apply zf9 Try.results51; exact rV_; exact rV_; intro w' hw
  exact ⟨rfl, hw.below (by simp)⟩
end Go.Proofs.Ytdahckhlfldkkaa
