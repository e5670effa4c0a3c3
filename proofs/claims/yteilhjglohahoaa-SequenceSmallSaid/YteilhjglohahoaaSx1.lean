/- A small logic of states for walks: a frame known at some slots, a heap known at some blocks. No program in sight. -/
import Derived.WalkKit
namespace Go.Sx
open Go Go.RowKit

/-! ## frames -/
def lk : List (Nat × Value) → Nat → Option Value
  | [], _ => none
  | (k, v) :: r, t => bif Nat.beq k t then some v else lk r t

structure Fr (n : Nat) (D : List Deferred) (F : List (Nat × Value)) (a : Act) : Prop where
  size : a.tmps.size = n
  defers : a.defers = D
  get : ∀ t v, lk F t = some v → a.tmps[t]? = some v

theorem lk_cons {k : Nat} {v : Value} {F : List (Nat × Value)} {t : Nat} : lk ((k, v) :: F) t = if k = t then some v else lk F t := by
  rw [lk]
  by_cases h : k = t
  · subst h; simp
  · have : Nat.beq k t = false := by
      cases hb : Nat.beq k t
      · rfl
      · exact absurd (Nat.eq_of_beq_eq_true hb) h
    simp [this, h]

theorem Fr.put {n : Nat} {D : List Deferred} {F : List (Nat × Value)} {a : Act} (h : Fr n D F a) {d : Nat} (hd : d < n) (v : Value) : Fr n D ((d, v) :: F) (a.put (some d) v) := by
  refine ⟨by simp [Act.put, h.size], h.defers, fun t u hu => ?_⟩
  rw [lk_cons] at hu
  by_cases e : d = t
  · subst e
    simp at hu; subst hu
    simp [Act.put, h.size, hd]
  · simp [e] at hu
    simp [Act.put, e, h.get t u hu]

theorem Fr.put_none {n : Nat} {D : List Deferred} {F : List (Nat × Value)} {a : Act} (h : Fr n D F a) (v : Value) : Fr n D F (a.put none v) := h

def ev (F : List (Nat × Value)) : Operand → Option Value
  | .tmp t => lk F t
  | .const v => some v
  | .global g => some (.pointer (some ⟨g, 0, none⟩))
  | .func f => some (.func (.func f) #[] #[])

theorem Fr.eval {n : Nat} {D : List Deferred} {F : List (Nat × Value)} {a : Act} (h : Fr n D F a) {x : Operand} {v : Value} (hx : ev F x = some v) : a.eval x = v := by
  cases x with
  | tmp t =>
    have := h.get t v hx
    simp only [Act.eval, Array.getD_eq_getD_getElem?, this]; rfl
  | const u => simpa [ev, Act.eval] using hx
  | global g => simpa [ev, Act.eval] using hx
  | func f => simpa [ev, Act.eval] using hx

/-- The frame G knows no more than F. -/
def FSub (G F : List (Nat × Value)) : Prop := ∀ t v, lk G t = some v → lk F t = some v
theorem FSub.nil {F : List (Nat × Value)} : FSub [] F := fun _ _ h => by simp [lk] at h
theorem FSub.cons {G F : List (Nat × Value)} {k : Nat} {v : Value} (h : lk F k = some v) (hs : FSub G F) : FSub ((k, v) :: G) F := by
  intro t u hu
  rw [lk_cons] at hu
  by_cases e : k = t
  · subst e; simp at hu; subst hu; exact h
  · simp [e] at hu; exact hs t u hu
theorem FSub.refl {F : List (Nat × Value)} : FSub F F := fun _ _ h => h
theorem Fr.sub {n : Nat} {D : List Deferred} {F G : List (Nat × Value)} {a : Act} (h : Fr n D F a) (hs : FSub G F) : Fr n D G a :=
  ⟨h.size, h.defers, fun t v hv => h.get t v (hs t v hv)⟩

/-! ## heaps -/
structure Ent where
  b : Nat
  o : Obj
  own : Bool

structure Rep (w0 w : World) (L : List Ent) : Prop where
  os : w.os = w0.os
  tape : w.tape = w0.tape
  output : w.output = w0.output
  size : w0.heap.size ≤ w.heap.size
  ok : ∀ x ∈ L, w.heap[x.b]? = some x.o
  own : ∀ x ∈ L, x.own = true → w0.heap.size ≤ x.b
  nd : (L.map Ent.b).Nodup
  frame : ∀ b, b < w0.heap.size → (∀ x ∈ L, x.b ≠ b) → w.heap[b]? = w0.heap[b]?

theorem Rep.start (w : World) : Rep w w [] := ⟨rfl, rfl, rfl, Nat.le_refl _, by simp, by simp, by simp, fun _ _ _ => rfl⟩

theorem Rep.lt {w0 w : World} {L : List Ent} (h : Rep w0 w L) {x : Ent} (hx : x ∈ L) : x.b < w.heap.size :=
  (Array.getElem?_eq_some_iff.1 (h.ok x hx)).1

theorem Rep.below {w0 w : World} {L : List Ent} (h : Rep w0 w L) (hl : ∀ x ∈ L, x.own = true) : Below w0.heap.size w0 w :=
  ⟨h.os, h.tape, h.output, h.size, fun k hk => h.frame k hk fun x hx e => by have := h.own x hx (hl x hx); omega⟩

/-- The entry of block b. -/
inductive At : List Ent → Nat → Obj → Prop
  | hd {b : Nat} {o : Obj} {f : Bool} {L : List Ent} : At (⟨b, o, f⟩ :: L) b o
  | tl {e : Ent} {b : Nat} {o : Obj} {L : List Ent} : At L b o → At (e :: L) b o
theorem At.mem {L : List Ent} {b : Nat} {o : Obj} (h : At L b o) : ∃ f, (⟨b, o, f⟩ : Ent) ∈ L := by
  induction h with
  | @hd b o f L => exact ⟨f, List.mem_cons_self⟩
  | tl _ ih => obtain ⟨f, hf⟩ := ih; exact ⟨f, List.mem_cons_of_mem _ hf⟩
theorem Rep.at {w0 w : World} {L : List Ent} (h : Rep w0 w L) {b : Nat} {o : Obj} (ha : At L b o) : w.heap[b]? = some o := by
  obtain ⟨f, hf⟩ := ha.mem
  exact h.ok _ hf

/-- The entry of block b turned from o to o'. -/
inductive Upd : List Ent → Nat → Obj → Obj → List Ent → Prop
  | hd {b : Nat} {o o' : Obj} {f : Bool} {L : List Ent} : Upd (⟨b, o, f⟩ :: L) b o o' (⟨b, o', f⟩ :: L)
  | tl {e : Ent} {b : Nat} {o o' : Obj} {L L' : List Ent} : Upd L b o o' L' → Upd (e :: L) b o o' (e :: L')
theorem Upd.at {L L' : List Ent} {b : Nat} {o o' : Obj} (h : Upd L b o o' L') : At L b o := by
  induction h with
  | hd => exact .hd
  | tl _ ih => exact .tl ih
theorem Upd.keys {L L' : List Ent} {b : Nat} {o o' : Obj} (h : Upd L b o o' L') : L'.map Ent.b = L.map Ent.b := by
  induction h with
  | hd => rfl
  | tl _ ih => simp [ih]
theorem Upd.mem {L L' : List Ent} {b : Nat} {o o' : Obj} (h : Upd L b o o' L') (nd : (L.map Ent.b).Nodup) : ∀ x ∈ L', (x.b = b ∧ x.o = o' ∧ ∃ y ∈ L, y.b = b ∧ y.own = x.own) ∨ (x.b ≠ b ∧ x ∈ L) := by
  induction h with
  | @hd b o o' f L =>
    intro x hx
    simp only [List.map_cons, List.nodup_cons] at nd
    rcases List.mem_cons.1 hx with rfl | hx
    · exact .inl ⟨rfl, rfl, _, List.mem_cons_self, rfl, rfl⟩
    · refine .inr ⟨fun e => nd.1 (List.mem_map.2 ⟨x, hx, e⟩), List.mem_cons_of_mem _ hx⟩
  | @tl e b o o' L L' hu ih =>
    intro x hx
    simp only [List.map_cons, List.nodup_cons] at nd
    rcases List.mem_cons.1 hx with rfl | hx
    · refine .inr ⟨fun he => nd.1 ?_, List.mem_cons_self⟩
      obtain ⟨f, hf⟩ := hu.at.mem
      exact List.mem_map.2 ⟨_, hf, he.symm⟩
    · rcases ih nd.2 x hx with ⟨h1, h2, y, hy, h3, h4⟩ | ⟨h1, h2⟩
      · exact .inl ⟨h1, h2, y, List.mem_cons_of_mem _ hy, h3, h4⟩
      · exact .inr ⟨h1, List.mem_cons_of_mem _ h2⟩

theorem Rep.alloc {w0 w : World} {L : List Ent} (h : Rep w0 w L) (o : Obj) : Rep w0 (w.alloc o) (⟨w.heap.size, o, true⟩ :: L) := by
  have hnew : (w.alloc o).heap[w.heap.size]? = some o := by show (w.heap.push o)[w.heap.size]? = some o; simp
  have hold : ∀ k, k < w.heap.size → (w.alloc o).heap[k]? = w.heap[k]? := fun k hk => Below.heap_alloc w o k hk
  refine ⟨h.os, h.tape, h.output, by have := h.size; simp; omega, ?_, ?_, ?_, ?_⟩
  · intro x hx
    rcases List.mem_cons.1 hx with rfl | hx
    · exact hnew
    · rw [hold _ (h.lt hx)]; exact h.ok x hx
  · intro x hx ho
    rcases List.mem_cons.1 hx with rfl | hx
    · exact h.size
    · exact h.own x hx ho
  · simp only [List.map_cons, List.nodup_cons]
    refine ⟨fun hm => ?_, h.nd⟩
    obtain ⟨x, hx, e⟩ := List.mem_map.1 hm
    have := h.lt hx
    omega
  · intro b hb hx
    rw [hold b (by have := h.size; omega)]
    exact h.frame b hb fun x hxL => hx x (List.mem_cons_of_mem _ hxL)

/-- The heap with one block replaced. -/
def setBlk (w : World) (b : Nat) (o : Obj) : World := { w with heap := w.heap.setIfInBounds b o }
theorem setBlk_same {w : World} {b : Nat} {o o' : Obj} (h : w.heap[b]? = some o) : (setBlk w b o').heap[b]? = some o' := by
  have := (Array.getElem?_eq_some_iff.1 h).1
  simp [setBlk, this]
theorem setBlk_other {w : World} {b k : Nat} {o' : Obj} (h : b ≠ k) : (setBlk w b o').heap[k]? = w.heap[k]? := by
  simp [setBlk, h]

theorem Rep.upd {w0 w : World} {L L' : List Ent} (h : Rep w0 w L) {b : Nat} {o o' : Obj} (hu : Upd L b o o' L') : Rep w0 (setBlk w b o') L' := by
  have hb := h.at hu.at
  obtain ⟨f, hf⟩ := hu.at.mem
  refine ⟨h.os, h.tape, h.output, by simpa [setBlk] using h.size, ?_, ?_, ?_, ?_⟩
  · intro x hx
    rcases hu.mem h.nd x hx with ⟨h1, h2, _⟩ | ⟨h1, h2⟩
    · rw [h1, h2]; exact setBlk_same hb
    · rw [setBlk_other (Ne.symm h1)]; exact h.ok x h2
  · intro x hx ho
    rcases hu.mem h.nd x hx with ⟨h1, h2, y, hy, h3, h4⟩ | ⟨h1, h2⟩
    · rw [h1, ← h3]; exact h.own y hy (by rw [h4, ho])
    · exact h.own x h2 ho
  · rw [hu.keys]; exact h.nd
  · intro k hk hx
    have hne : ∀ x ∈ L, x.b ≠ k := by
      intro x hxL e
      have : k ∈ L'.map Ent.b := by rw [hu.keys]; exact List.mem_map.2 ⟨x, hxL, e⟩
      obtain ⟨y, hy, he⟩ := List.mem_map.1 this
      exact hx y hy he
    rw [setBlk_other (fun e => hne _ hf e)]
    exact h.frame k hk hne

theorem Rep.drew {w0 w : World} {L : List Ent} (h : Rep w0 w L) : Rep w0 w.drew L := ⟨h.os, h.tape, h.output, h.size, h.ok, h.own, h.nd, h.frame⟩

/-- e taken out of M. -/
inductive Rem : List Ent → Ent → List Ent → Prop
  | hd {e : Ent} {M : List Ent} : Rem (e :: M) e M
  | tl {e f : Ent} {M M' : List Ent} : Rem M e M' → Rem (f :: M) e (f :: M')
theorem Rem.perm {M M' : List Ent} {e : Ent} (h : Rem M e M') : M.Perm (e :: M') := by
  induction h with
  | hd => exact .refl _
  | @tl e f M M' _ ih => exact (ih.cons f).trans (.swap e f M')

theorem Rem.right {M M' N : List Ent} {e : Ent} (h : Rem M e M') : Rem (N ++ M) e (N ++ M') := by
  induction N with
  | nil => exact h
  | cons x N ih => exact .tl ih
theorem At.right {L N : List Ent} {b : Nat} {o : Obj} (h : At L b o) : At (N ++ L) b o := by
  induction N with
  | nil => exact h
  | cons x N ih => exact .tl ih
theorem At.left {L N : List Ent} {b : Nat} {o : Obj} (h : At N b o) : At (N ++ L) b o := by
  induction h with
  | hd => exact .hd
  | tl _ ih => exact .tl ih
theorem Upd.right {L L' N : List Ent} {b : Nat} {o o' : Obj} (h : Upd L b o o' L') : Upd (N ++ L) b o o' (N ++ L') := by
  induction N with
  | nil => exact h
  | cons x N ih => exact .tl ih
/-- N taken out of M. -/
def RemL (M N M' : List Ent) : Prop := M.Perm (N ++ M')
theorem RemL.hd {N M : List Ent} : RemL (N ++ M) N M := .refl _
theorem RemL.all {N : List Ent} : RemL N N [] := by unfold RemL; simp
theorem RemL.nil {M : List Ent} : RemL M [] M := .refl _
theorem RemL.one {M M' : List Ent} {e : Ent} (h : Rem M e M') : RemL M [e] M' := h.perm
theorem RemL.tl {e : Ent} {N M M' : List Ent} (h : RemL M N M') : RemL (e :: M) N (e :: M') := (h.cons e).trans List.perm_middle.symm
theorem RemL.right {K N M M' : List Ent} (h : RemL M N M') : RemL (K ++ M) N (K ++ M') := by
  induction K with
  | nil => exact h
  | cons e K ih => exact ih.tl

/-- All of these are the call's own. -/
def AO (L : List Ent) : Prop := ∀ x ∈ L, x.own = true
theorem AO.nil : AO [] := fun x hx => by cases hx
theorem AO.cons {b : Nat} {o : Obj} {L : List Ent} (h : AO L) : AO (⟨b, o, true⟩ :: L) := fun x hx => by
  rcases List.mem_cons.1 hx with rfl | hx
  · rfl
  · exact h x hx
theorem AO.app {N L : List Ent} (hN : ∀ x ∈ N, x.own = true) (h : AO L) : AO (N ++ L) := fun x hx => by
  rcases List.mem_append.1 hx with hx | hx
  · exact hN x hx
  · exact h x hx

/-- L is a sub-heap of M: what is left out is the call's own. -/
def HSub (L M : List Ent) : Prop := ∃ R : List Ent, M.Perm (L ++ R) ∧ ∀ x ∈ R, x.own = true
theorem HSub.perm {L M : List Ent} (h : HSub L M) : ∃ R : List Ent, M.Perm (L ++ R) ∧ ∀ x ∈ R, x.own = true := h
theorem HSub.nil {M : List Ent} (h : M.all (·.own) = true) : HSub [] M := ⟨M, .refl _, by simpa using h⟩
theorem HSub.nilA {M : List Ent} (h : AO M) : HSub [] M := ⟨M, .refl _, h⟩
theorem HSub.take {L M M' : List Ent} {e : Ent} (hr : Rem M e M') (h : HSub L M') : HSub (e :: L) M := by
  obtain ⟨R, hp, ho⟩ := h
  exact ⟨R, hr.perm.trans (hp.cons _), ho⟩
theorem HSub.takeL {L M M' N : List Ent} (hr : RemL M N M') (h : HSub L M') : HSub (N ++ L) M := by
  obtain ⟨R, hp, ho⟩ := h
  refine ⟨R, List.Perm.trans hr ?_, ho⟩
  rw [List.append_assoc]; exact hp.append_left N
theorem HSub.takeA {M M' N : List Ent} (hr : RemL M N M') (h : AO M') : HSub N M := ⟨M', hr, h⟩
theorem HSub.same {M : List Ent} : HSub M M := ⟨[], by simp, by simp⟩
theorem HSub.drop {L M : List Ent} {b : Nat} {o : Obj} (h : HSub L M) : HSub L (⟨b, o, true⟩ :: M) := by
  obtain ⟨R, hp, ho⟩ := h
  exact ⟨⟨b, o, true⟩ :: R, (hp.cons _).trans List.perm_middle.symm, fun x hx => by
    rcases List.mem_cons.1 hx with rfl | hx
    · rfl
    · exact ho x hx⟩
theorem HSub.dropL {L M N : List Ent} (hN : ∀ x ∈ N, x.own = true) (h : HSub L M) : HSub L (N ++ M) := by
  obtain ⟨R, hp, ho⟩ := h
  refine ⟨N ++ R, ?_, fun x hx => ?_⟩
  · refine (hp.append_left N).trans ?_
    rw [← List.append_assoc, ← List.append_assoc]
    exact List.Perm.append_right R List.perm_append_comm
  · rcases List.mem_append.1 hx with hx | hx
    · exact hN x hx
    · exact ho x hx

theorem Rep.perm {w0 w : World} {L M : List Ent} (hp : M.Perm L) (h : Rep w0 w M) : Rep w0 w L :=
  ⟨h.os, h.tape, h.output, h.size, fun x hx => h.ok x (hp.mem_iff.2 hx), fun x hx => h.own x (hp.mem_iff.2 hx), (hp.map _).nodup_iff.1 h.nd,
    fun b hb hx => h.frame b hb fun x hxM => hx x (hp.mem_iff.1 hxM)⟩

theorem Rep.sub {w0 w : World} {L M : List Ent} (hs : HSub L M) (h : Rep w0 w M) : Rep w0 w L := by
  obtain ⟨R, hp, ho⟩ := hs.perm
  have h := h.perm hp
  refine ⟨h.os, h.tape, h.output, h.size, fun x hx => h.ok x (List.mem_append_left _ hx), fun x hx => h.own x (List.mem_append_left _ hx), ?_, fun b hb hx => ?_⟩
  · have := h.nd; rw [List.map_append, List.nodup_append] at this; exact this.1
  · refine h.frame b hb fun x hxM e => ?_
    rcases List.mem_append.1 hxM with hl | hl
    · exact hx x hl e
    · have := h.own x hxM (ho x hl); omega

/-- A step of the world that leaves all that lay as it lay. -/
theorem Rep.grow {w0 w w' : World} {L : List Ent} (h : Rep w0 w L) (hb : Below w.heap.size w w') : Rep w0 w' L := by
  refine ⟨hb.os.trans h.os, hb.tape.trans h.tape, hb.output.trans h.output, Nat.le_trans h.size hb.size, fun x hx => ?_, h.own, h.nd, fun b hb0 hx => ?_⟩
  · rw [hb.block _ (h.lt hx)]; exact h.ok x hx
  · rw [hb.block b (Nat.lt_of_lt_of_le hb0 h.size)]; exact h.frame b hb0 hx
end Go.Sx
