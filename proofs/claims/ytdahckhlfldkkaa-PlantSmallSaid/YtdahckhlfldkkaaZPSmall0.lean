/- A part of the proofs of this seat: a small logic of walks, plain laws, and what some of the program's functions compute, shown by walks through their code. Conditions: the hypotheses that each theorem names. -/
import Derived.WalkKit
import Derived.RangeFuncNested
import Derived.RangeFuncCalls
import Derived.TacticsInMore
import Derived.OwnWalkIn
set_option linter.unusedSimpArgs false
set_option linter.unusedVariables false
set_option linter.unusedSectionVars false
namespace Go.Sx
open Go Go.RowKit
def lk : List (Nat × Value) → Nat → Option Value
  | [], _ => none
  | (k, v) :: r, t => bif Nat.beq k t then some v else lk r t
structure Fr (n : Nat) (D : List Deferred) (F : List (Nat × Value)) (a : Act) : Prop where
  size : a.tmps.size = n
  defers : a.defers = D
  get : ∀ t v, lk F t = some v → a.tmps[t]? = some v
theorem zZ5 {k : Nat} {v : Value} {F : List (Nat × Value)} {t : Nat} : lk ((k, v) :: F) t = if k = t then some v else lk F t := by
  rw [lk]
  by_cases h : k = t
  · subst h; simp
  · have : Nat.beq k t = false := by
      cases hb : Nat.beq k t
      · rfl
      · exact absurd (Nat.eq_of_beq_eq_true hb) h
    simp [this, h]
theorem Fr.put {n : Nat} {D : List Deferred} {F : List (Nat × Value)} {a : Act} (h : Fr n D F a) {d : Nat} (hd : d < n) (v : Value) : Fr n D ((d, v) :: F) (a.put (some d) v) := by
  refine ⟨by simp [Act.put, h.size], h.defers, fun t u hu => ?_⟩
  rw [zZ5] at hu
  by_cases e : d = t
  · subst e
    simp at hu; subst hu
    simp [Act.put, h.size, hd]
  · simp [e] at hu
    simp [Act.put, e, h.get t u hu]
theorem Fr.put_none {n : Nat} {D : List Deferred} {F : List (Nat × Value)} {a : Act} (h : Fr n D F a) (v : Value) : Fr n D F (a.put none v) := h
def ev (F : List (Nat × Value)) : Operand → Option Value
  | .tmp t => lk F t
  | .const v => some v
  | .global g => some (.pointer (some ⟨g, 0, none⟩))
  | .func f => some (.func (.func f) #[] #[])
theorem Fr.eval {n : Nat} {D : List Deferred} {F : List (Nat × Value)} {a : Act} (h : Fr n D F a) {x : Operand} {v : Value} (hx : ev F x = some v) : a.eval x = v := by
  cases x with
  | tmp t =>
    have := h.get t v hx
    simp only [Act.eval, Array.getD_eq_getD_getElem?, this]; rfl
  | const u => simpa [ev, Act.eval] using hx
  | global g => simpa [ev, Act.eval] using hx
  | func f => simpa [ev, Act.eval] using hx
def FSub (G F : List (Nat × Value)) : Prop := ∀ t v, lk G t = some v → lk F t = some v
theorem FSub.nil {F : List (Nat × Value)} : FSub [] F := fun _ _ h => by simp [lk] at h
theorem FSub.cons {G F : List (Nat × Value)} {k : Nat} {v : Value} (h : lk F k = some v) (hs : FSub G F) : FSub ((k, v) :: G) F := by
  intro t u hu
  rw [zZ5] at hu
  by_cases e : k = t
  · subst e; simp at hu; subst hu; exact h
  · simp [e] at hu; exact hs t u hu
theorem FSub.refl {F : List (Nat × Value)} : FSub F F := fun _ _ h => h
theorem Fr.sub {n : Nat} {D : List Deferred} {F G : List (Nat × Value)} {a : Act} (h : Fr n D F a) (hs : FSub G F) : Fr n D G a :=
  ⟨h.size, h.defers, fun t v hv => h.get t v (hs t v hv)⟩
structure Ent where
  b : Nat
  o : Obj
  own : Bool
structure Rep (w0 w : World) (L : List Ent) : Prop where
  os : w.os = w0.os
  tape : w.tape = w0.tape
  output : w.output = w0.output
  size : w0.heap.size ≤ w.heap.size
  ok : ∀ x ∈ L, w.heap[x.b]? = some x.o
  own : ∀ x ∈ L, x.own = true → w0.heap.size ≤ x.b
  nd : (L.map Ent.b).Nodup
  frame : ∀ b, b < w0.heap.size → (∀ x ∈ L, x.b ≠ b) → w.heap[b]? = w0.heap[b]?
theorem Rep.start (w : World) : Rep w w [] := ⟨rfl, rfl, rfl, Nat.le_refl _, by simp, by simp, by simp, fun _ _ _ => rfl⟩
theorem Rep.lt {w0 w : World} {L : List Ent} (h : Rep w0 w L) {x : Ent} (hx : x ∈ L) : x.b < w.heap.size :=
  (Array.getElem?_eq_some_iff.1 (h.ok x hx)).1
theorem Rep.below {w0 w : World} {L : List Ent} (h : Rep w0 w L) (hl : ∀ x ∈ L, x.own = true) : Below w0.heap.size w0 w :=
  ⟨h.os, h.tape, h.output, h.size, fun k hk => h.frame k hk fun x hx e => by have := h.own x hx (hl x hx); omega⟩
inductive At : List Ent → Nat → Obj → Prop
  | hd {b : Nat} {o : Obj} {f : Bool} {L : List Ent} : At (⟨b, o, f⟩ :: L) b o
  | tl {e : Ent} {b : Nat} {o : Obj} {L : List Ent} : At L b o → At (e :: L) b o
theorem At.mem {L : List Ent} {b : Nat} {o : Obj} (h : At L b o) : ∃ f, (⟨b, o, f⟩ : Ent) ∈ L := by
  induction h with
  | @hd b o f L => exact ⟨f, List.mem_cons_self⟩
  | tl _ ih => obtain ⟨f, hf⟩ := ih; exact ⟨f, List.mem_cons_of_mem _ hf⟩
theorem Rep.at {w0 w : World} {L : List Ent} (h : Rep w0 w L) {b : Nat} {o : Obj} (ha : At L b o) : w.heap[b]? = some o := by
  obtain ⟨f, hf⟩ := ha.mem
  exact h.ok _ hf
inductive Upd : List Ent → Nat → Obj → Obj → List Ent → Prop
  | hd {b : Nat} {o o' : Obj} {f : Bool} {L : List Ent} : Upd (⟨b, o, f⟩ :: L) b o o' (⟨b, o', f⟩ :: L)
  | tl {e : Ent} {b : Nat} {o o' : Obj} {L L' : List Ent} : Upd L b o o' L' → Upd (e :: L) b o o' (e :: L')
theorem Upd.at {L L' : List Ent} {b : Nat} {o o' : Obj} (h : Upd L b o o' L') : At L b o := by
  induction h with
  | hd => exact .hd
  | tl _ ih => exact .tl ih
theorem Upd.keys {L L' : List Ent} {b : Nat} {o o' : Obj} (h : Upd L b o o' L') : L'.map Ent.b = L.map Ent.b := by
  induction h with
  | hd => rfl
  | tl _ ih => simp [ih]
theorem Upd.mem {L L' : List Ent} {b : Nat} {o o' : Obj} (h : Upd L b o o' L') (nd : (L.map Ent.b).Nodup) : ∀ x ∈ L', (x.b = b ∧ x.o = o' ∧ ∃ y ∈ L, y.b = b ∧ y.own = x.own) ∨ (x.b ≠ b ∧ x ∈ L) := by
  induction h with
  | @hd b o o' f L =>
    intro x hx
    simp only [List.map_cons, List.nodup_cons] at nd
    rcases List.mem_cons.1 hx with rfl | hx
    · exact .inl ⟨rfl, rfl, _, List.mem_cons_self, rfl, rfl⟩
    · refine .inr ⟨fun e => nd.1 (List.mem_map.2 ⟨x, hx, e⟩), List.mem_cons_of_mem _ hx⟩
  | @tl e b o o' L L' hu ih =>
    intro x hx
    simp only [List.map_cons, List.nodup_cons] at nd
    rcases List.mem_cons.1 hx with rfl | hx
    · refine .inr ⟨fun he => nd.1 ?_, List.mem_cons_self⟩
      obtain ⟨f, hf⟩ := hu.at.mem
      exact List.mem_map.2 ⟨_, hf, he.symm⟩
    · rcases ih nd.2 x hx with ⟨h1, h2, y, hy, h3, h4⟩ | ⟨h1, h2⟩
      · exact .inl ⟨h1, h2, y, List.mem_cons_of_mem _ hy, h3, h4⟩
      · exact .inr ⟨h1, List.mem_cons_of_mem _ h2⟩
theorem Rep.alloc {w0 w : World} {L : List Ent} (h : Rep w0 w L) (o : Obj) : Rep w0 (w.alloc o) (⟨w.heap.size, o, true⟩ :: L) := by
  have hnew : (w.alloc o).heap[w.heap.size]? = some o := by show (w.heap.push o)[w.heap.size]? = some o; simp
  have hold : ∀ k, k < w.heap.size → (w.alloc o).heap[k]? = w.heap[k]? := fun k hk => Below.heap_alloc w o k hk
  refine ⟨h.os, h.tape, h.output, by have := h.size; simp; omega, ?_, ?_, ?_, ?_⟩
  · intro x hx
    rcases List.mem_cons.1 hx with rfl | hx
    · exact hnew
    · rw [hold _ (h.lt hx)]; exact h.ok x hx
  · intro x hx ho
    rcases List.mem_cons.1 hx with rfl | hx
    · exact h.size
    · exact h.own x hx ho
  · simp only [List.map_cons, List.nodup_cons]
    refine ⟨fun hm => ?_, h.nd⟩
    obtain ⟨x, hx, e⟩ := List.mem_map.1 hm
    have := h.lt hx
    omega
  · intro b hb hx
    rw [hold b (by have := h.size; omega)]
    exact h.frame b hb fun x hxL => hx x (List.mem_cons_of_mem _ hxL)
def zl6 (w : World) (b : Nat) (o : Obj) : World := { w with heap := w.heap.setIfInBounds b o }
theorem zM7 {w : World} {b : Nat} {o o' : Obj} (h : w.heap[b]? = some o) : (zl6 w b o').heap[b]? = some o' := by
  have := (Array.getElem?_eq_some_iff.1 h).1
  simp [zl6, this]
theorem zz7 {w : World} {b k : Nat} {o' : Obj} (h : b ≠ k) : (zl6 w b o').heap[k]? = w.heap[k]? := by
  simp [zl6, h]
theorem Rep.upd {w0 w : World} {L L' : List Ent} (h : Rep w0 w L) {b : Nat} {o o' : Obj} (hu : Upd L b o o' L') : Rep w0 (zl6 w b o') L' := by
  have hb := h.at hu.at
  obtain ⟨f, hf⟩ := hu.at.mem
  refine ⟨h.os, h.tape, h.output, by simpa [zl6] using h.size, ?_, ?_, ?_, ?_⟩
  · intro x hx
    rcases hu.mem h.nd x hx with ⟨h1, h2, _⟩ | ⟨h1, h2⟩
    · rw [h1, h2]; exact zM7 hb
    · rw [zz7 (Ne.symm h1)]; exact h.ok x h2
  · intro x hx ho
    rcases hu.mem h.nd x hx with ⟨h1, h2, y, hy, h3, h4⟩ | ⟨h1, h2⟩
    · rw [h1, ← h3]; exact h.own y hy (by rw [h4, ho])
    · exact h.own x h2 ho
  · rw [hu.keys]; exact h.nd
  · intro k hk hx
    have hne : ∀ x ∈ L, x.b ≠ k := by
      intro x hxL e
      have : k ∈ L'.map Ent.b := by rw [hu.keys]; exact List.mem_map.2 ⟨x, hxL, e⟩
      obtain ⟨y, hy, he⟩ := List.mem_map.1 this
      exact hx y hy he
    rw [zz7 (fun e => hne _ hf e)]
    exact h.frame k hk hne
theorem Rep.drew {w0 w : World} {L : List Ent} (h : Rep w0 w L) : Rep w0 w.drew L := ⟨h.os, h.tape, h.output, h.size, h.ok, h.own, h.nd, h.frame⟩
inductive Rem : List Ent → Ent → List Ent → Prop
  | hd {e : Ent} {M : List Ent} : Rem (e :: M) e M
  | tl {e f : Ent} {M M' : List Ent} : Rem M e M' → Rem (f :: M) e (f :: M')
theorem Rem.perm {M M' : List Ent} {e : Ent} (h : Rem M e M') : M.Perm (e :: M') := by
  induction h with
  | hd => exact .refl _
  | @tl e f M M' _ ih => exact (ih.cons f).trans (.swap e f M')
theorem Rem.right {M M' N : List Ent} {e : Ent} (h : Rem M e M') : Rem (N ++ M) e (N ++ M') := by
  induction N with
  | nil => exact h
  | cons x N ih => exact .tl ih
theorem At.right {L N : List Ent} {b : Nat} {o : Obj} (h : At L b o) : At (N ++ L) b o := by
  induction N with
  | nil => exact h
  | cons x N ih => exact .tl ih
theorem At.left {L N : List Ent} {b : Nat} {o : Obj} (h : At N b o) : At (N ++ L) b o := by
  induction h with
  | hd => exact .hd
  | tl _ ih => exact .tl ih
theorem Upd.right {L L' N : List Ent} {b : Nat} {o o' : Obj} (h : Upd L b o o' L') : Upd (N ++ L) b o o' (N ++ L') := by
  induction N with
  | nil => exact h
  | cons x N ih => exact .tl ih
def RemL (M N M' : List Ent) : Prop := M.Perm (N ++ M')
theorem RemL.hd {N M : List Ent} : RemL (N ++ M) N M := .refl _
theorem RemL.all {N : List Ent} : RemL N N [] := by unfold RemL; simp
theorem RemL.nil {M : List Ent} : RemL M [] M := .refl _
theorem RemL.one {M M' : List Ent} {e : Ent} (h : Rem M e M') : RemL M [e] M' := h.perm
theorem RemL.tl {e : Ent} {N M M' : List Ent} (h : RemL M N M') : RemL (e :: M) N (e :: M') := (h.cons e).trans List.perm_middle.symm
theorem RemL.right {K N M M' : List Ent} (h : RemL M N M') : RemL (K ++ M) N (K ++ M') := by
  induction K with
  | nil => exact h
  | cons e K ih => exact ih.tl
def AO (L : List Ent) : Prop := ∀ x ∈ L, x.own = true
theorem AO.nil : AO [] := fun x hx => by cases hx
theorem AO.cons {b : Nat} {o : Obj} {L : List Ent} (h : AO L) : AO (⟨b, o, true⟩ :: L) := fun x hx => by
  rcases List.mem_cons.1 hx with rfl | hx
  · rfl
  · exact h x hx
theorem AO.app {N L : List Ent} (hN : ∀ x ∈ N, x.own = true) (h : AO L) : AO (N ++ L) := fun x hx => by
  rcases List.mem_append.1 hx with hx | hx
  · exact hN x hx
  · exact h x hx
def HSub (L M : List Ent) : Prop := ∃ R : List Ent, M.Perm (L ++ R) ∧ ∀ x ∈ R, x.own = true
theorem HSub.perm {L M : List Ent} (h : HSub L M) : ∃ R : List Ent, M.Perm (L ++ R) ∧ ∀ x ∈ R, x.own = true := h
theorem HSub.nil {M : List Ent} (h : M.all (·.own) = true) : HSub [] M := ⟨M, .refl _, by simpa using h⟩
theorem HSub.nilA {M : List Ent} (h : AO M) : HSub [] M := ⟨M, .refl _, h⟩
theorem HSub.take {L M M' : List Ent} {e : Ent} (hr : Rem M e M') (h : HSub L M') : HSub (e :: L) M := by
  obtain ⟨R, hp, ho⟩ := h
  exact ⟨R, hr.perm.trans (hp.cons _), ho⟩
theorem HSub.takeL {L M M' N : List Ent} (hr : RemL M N M') (h : HSub L M') : HSub (N ++ L) M := by
  obtain ⟨R, hp, ho⟩ := h
  refine ⟨R, List.Perm.trans hr ?_, ho⟩
  rw [List.append_assoc]; exact hp.append_left N
theorem HSub.takeA {M M' N : List Ent} (hr : RemL M N M') (h : AO M') : HSub N M := ⟨M', hr, h⟩
theorem HSub.same {M : List Ent} : HSub M M := ⟨[], by simp, by simp⟩
theorem HSub.drop {L M : List Ent} {b : Nat} {o : Obj} (h : HSub L M) : HSub L (⟨b, o, true⟩ :: M) := by
  obtain ⟨R, hp, ho⟩ := h
  exact ⟨⟨b, o, true⟩ :: R, (hp.cons _).trans List.perm_middle.symm, fun x hx => by
    rcases List.mem_cons.1 hx with rfl | hx
    · rfl
    · exact ho x hx⟩
theorem HSub.dropL {L M N : List Ent} (hN : ∀ x ∈ N, x.own = true) (h : HSub L M) : HSub L (N ++ M) := by
  obtain ⟨R, hp, ho⟩ := h
  refine ⟨N ++ R, ?_, fun x hx => ?_⟩
  · refine (hp.append_left N).trans ?_
    rw [← List.append_assoc, ← List.append_assoc]
    exact List.Perm.append_right R List.perm_append_comm
  · rcases List.mem_append.1 hx with hx | hx
    · exact hN x hx
    · exact ho x hx
theorem Rep.perm {w0 w : World} {L M : List Ent} (hp : M.Perm L) (h : Rep w0 w M) : Rep w0 w L :=
  ⟨h.os, h.tape, h.output, h.size, fun x hx => h.ok x (hp.mem_iff.2 hx), fun x hx => h.own x (hp.mem_iff.2 hx), (hp.map _).nodup_iff.1 h.nd,
    fun b hb hx => h.frame b hb fun x hxM => hx x (hp.mem_iff.1 hxM)⟩
theorem Rep.sub {w0 w : World} {L M : List Ent} (hs : HSub L M) (h : Rep w0 w M) : Rep w0 w L := by
  obtain ⟨R, hp, ho⟩ := hs.perm
  have h := h.perm hp
  refine ⟨h.os, h.tape, h.output, h.size, fun x hx => h.ok x (List.mem_append_left _ hx), fun x hx => h.own x (List.mem_append_left _ hx), ?_, fun b hb hx => ?_⟩
  · have := h.nd; rw [List.map_append, List.nodup_append] at this; exact this.1
  · refine h.frame b hb fun x hxM e => ?_
    rcases List.mem_append.1 hxM with hl | hl
    · exact hx x hl e
    · have := h.own x hxM (ho x hl); omega
theorem Rep.grow {w0 w w' : World} {L : List Ent} (h : Rep w0 w L) (hb : Below w.heap.size w w') : Rep w0 w' L := by
  refine ⟨hb.os.trans h.os, hb.tape.trans h.tape, hb.output.trans h.output, Nat.le_trans h.size hb.size, fun x hx => ?_, h.own, h.nd, fun b hb0 hx => ?_⟩
  · rw [hb.block _ (h.lt hx)]; exact h.ok x hx
  · rw [hb.block b (Nat.lt_of_lt_of_le hb0 h.size)]; exact h.frame b hb0 hx
end Go.Sx
namespace Go.Sx
open Go Go.RowKit
def FR (r : Option Nat) : Fence := { fn := fun _ => True, depth := none, alive := false, round := r }
def WC (r : Option Nat) (P : Program) (c : Code) (Q : Exit → Act → World → Prop) : Act → World → Prop := fun a w => c.wpIn (FR r) 0 P Q a w
def WL (r : Option Nat) (P : Program) (ops : Array Oper) (Q : Exit → Act → World → Prop) (l : List Oper) : Act → World → Prop := fun a w => wpListIn (FR r) 0 P ops Q l a w
theorem zP1 {r : Option Nat} {P : Program} {f : FuncId} {args : Array Value} {w : World} {R : Ending → World → Prop} (h : Calls P f args w R) : CallsIn (FR r) 0 P f args w R := by
  have h0 : CallsIn Fence.wide 0 P f args w R := callsIn_wide.2 h
  cases r with
  | none => exact h0
  | some l => exact h0.inRound l
theorem zB0 {P : Program} {f : FuncId} {args : Array Value} {w : World} {R : Ending → World → Prop} (h : CallsIn (FR none) 0 P f args w R) : Calls P f args w R :=
  (callsIn_wide (n := 0)).1 h
def nd : Op → Bool
  | .defer _ => false
  | _ => true
theorem zI7 {r : Option Nat} {ρ : Operand → Value} {o : Oper} (h : nd o.op = true) : Oper.semAt r ρ o = execOp ρ o :=
  Oper.semAt_eq r ρ o (fun c hc => by rw [hc] at h; cases h)
def St (n : Nat) (D : List Deferred) (w0 : World) (F : List (Nat × Value)) (L : List Ent) (X : Act → World → Prop) : Prop :=
  ∀ a w, Fr n D F a → Rep w0 w L → X a w
section
variable {r : Option Nat} {P : Program} {n : Nat} {D : List Deferred} {w0 : World} {F : List (Nat × Value)} {L : List Ent} {Q : Exit → Act → World → Prop} {K : Act → World → Prop} {ops : Array Oper}
theorem St.weak {F' : List (Nat × Value)} {L' : List Ent} {X : Act → World → Prop} (hF : FSub F' F) (hL : HSub L' L) (h : St n D w0 F' L' X) : St n D w0 F L X :=
  fun a w ha hw => h a w (ha.sub hF) (hw.sub hL)
theorem St.imp {X Y : Act → World → Prop} (h : St n D w0 F L X) (hXY : ∀ a w, X a w → Y a w) : St n D w0 F L Y := fun a w ha hw => hXY a w (h a w ha hw)
theorem s9 {x y : Code} (h : St n D w0 F L (WC r P x (Exit.then (WC r P y Q) Q))) : St n D w0 F L (WC r P (.seq x y) Q) := fun a w ha hw => wpIn_seq (h a w ha hw)
theorem x9 {id : Nat} {c : Code} (h : St n D w0 F L (WC r P c (Exit.inBlock id Q))) : St n D w0 F L (WC r P (.block id c) Q) := fun a w ha hw => wpIn_block (h a w ha hw)
theorem w5 (h : St n D w0 F L (Q .normal)) : St n D w0 F L (WC r P .skip Q) := fun a w ha hw => wpIn_skip (h a w ha hw)
theorem s8 (h : St n D w0 F L (Q .ret)) : St n D w0 F L (WC r P .ret Q) := fun a w ha hw => wpIn_ret (h a w ha hw)
theorem w4 {id : Nat} (h : St n D w0 F L (Q (.exit id))) : St n D w0 F L (WC r P (.exit id) Q) := fun a w ha hw => wpIn_exit (h a w ha hw)
theorem zo1 {id : Nat} (h : St n D w0 F L (Q .normal)) : St n D w0 F L (WC r P (.label id) Q) := fun a w ha hw => wpIn_label (h a w ha hw)
theorem yi8 {c : Operand} {x y : Code} {t : Bool} (hc : ev F c = some (.bool t)) (ht : t = true → St n D w0 F L (WC r P x Q)) (hf : t = false → St n D w0 F L (WC r P y Q)) :
    St n D w0 F L (WC r P (.cond c x y) Q) := fun a w ha hw => wpIn_cond_split (ha.eval hc) (fun h => ht h a w ha hw) (fun h => hf h a w ha hw)
theorem v8 {c : Operand} {x y : Code} {t : Bool} (hc : ev F c = some (.bool t)) (h : t = true) (ht : St n D w0 F L (WC r P x Q)) :
    St n D w0 F L (WC r P (.cond c x y) Q) := yi8 hc (fun _ => ht) (fun h' => by rw [h] at h'; cases h')
theorem v9 {c : Operand} {x y : Code} {t : Bool} (hc : ev F c = some (.bool t)) (h : t = false) (hf : St n D w0 F L (WC r P y Q)) :
    St n D w0 F L (WC r P (.cond c x y) Q) := yi8 hc (fun h' => by rw [h] at h'; cases h') (fun _ => hf)
theorem z8 {id : Nat} {l : List Oper} (h : St n D w0 F L (WL r P l.toArray Q l)) : St n D w0 F L (WC r P (.region id l.toArray false) Q) :=
  fun a w ha hw => wpIn_region_lit (h a w ha hw)
theorem s7 (h : St n D w0 F L (Q .normal)) : St n D w0 F L (WL r P ops Q []) := h
noncomputable def B (p : Prop) : Bool := @decide p (Classical.propDecidable p)
theorem zj0 {p : Prop} (h : p) : B p = true := by unfold B; exact @decide_eq_true _ (Classical.propDecidable p) h
theorem zc2 {p : Prop} (h : ¬ p) : B p = false := by unfold B; exact @decide_eq_false _ (Classical.propDecidable p) h
theorem yA3 {p q : Prop} (h : p ↔ q) : B p = B q := by rw [propext h]
theorem yu2 {c : Operand} {x y : Code} {p : Prop} {_ : Decidable p} (hc : ev F c = some (.bool (decide p))) (ht : p → St n D w0 F L (WC r P x Q)) (hf : ¬ p → St n D w0 F L (WC r P y Q)) :
    St n D w0 F L (WC r P (.cond c x y) Q) := yi8 hc (fun h => ht (of_decide_eq_true h)) (fun h => hf (of_decide_eq_false h))
theorem w6 (h : St n D w0 F L K) : St n D w0 F L (Exit.then K Q .normal) := h
theorem z6 (h : St n D w0 F L (Q .ret)) : St n D w0 F L (Exit.then K Q .ret) := h
theorem z0 {id : Nat} (h : St n D w0 F L (Q (.exit id))) : St n D w0 F L (Exit.then K Q (.exit id)) := h
theorem p5 {id : Nat} (h : St n D w0 F L (Q .normal)) : St n D w0 F L (Exit.inBlock id Q .normal) := h
theorem y0 {id : Nat} (h : St n D w0 F L (Q .ret)) : St n D w0 F L (Exit.inBlock id Q .ret) := h
theorem z7 {id : Nat} (h : St n D w0 F L (Q .normal)) : St n D w0 F L (Exit.inBlock id Q (.exit id)) := fun a w ha hw => by
  show (if id = id then Q .normal a w else Q (.exit id) a w); rw [if_pos rfl]; exact h a w ha hw
theorem zs6 {id j : Nat} (hne : Nat.beq j id = false) (h : St n D w0 F L (Q (.exit j))) : St n D w0 F L (Exit.inBlock id Q (.exit j)) := fun a w ha hw => by
  have : j ≠ id := fun e => by subst e; simp at hne
  show (if j = id then Q .normal a w else Q (.exit j) a w); rw [if_neg this]; exact h a w ha hw
theorem zg6 {o : Oper} {y : Nat → Option Bool} (h : o.guard = none) : Region.wanted o y = true := by simp [Region.wanted, h]
theorem zi0 {o : Oper} {rest : List Oper} (hg : o.guard = none) (hnd : nd o.op = true)
    (h : ∀ a w, Fr n D F a → Rep w0 w L → o.uponIn (FR r) 0 P a (WL r P ops Q rest) Q ((execOp a.eval o).run P w)) : St n D w0 F L (WL r P ops Q (o :: rest)) := by
  intro a w ha hw
  show (if Region.wanted o (yielded ops a.tmps) then _ else _)
  rw [zg6 hg]
  refine ⟨fun _ _ => trivial, ?_⟩
  rw [show o.semAt (FR r).round a.eval = execOp a.eval o from zI7 hnd]
  exact h a w ha hw
def gv (ops : Array Oper) (F : List (Nat × Value)) (j : Nat) : Option Value := ((ops[j]?).bind (·.dst)).bind (lk F)
theorem zA3 {a : Act} {j : Nat} {b : Bool} (ha : Fr n D F a) (h : gv ops F j = some (.bool b)) : yielded ops a.tmps j = some b := by
  unfold gv at h
  unfold yielded
  cases hd : (ops[j]?).bind (·.dst) with
  | none => simp [hd] at h
  | some t =>
    simp only [hd, Option.bind_some] at h ⊢
    rw [ha.get t _ h]
theorem zF2 {a : Act} {j : Nat} (ha : Fr n D F a) (h : gv ops F j = some undef) : yielded ops a.tmps j = none := by
  unfold gv at h
  unfold yielded
  cases hd : (ops[j]?).bind (·.dst) with
  | none => simp [hd] at h
  | some t =>
    simp only [hd, Option.bind_some] at h ⊢
    rw [ha.get t _ h]
    rfl
theorem yg0 (r : Option Nat) (ρ : Operand → Value) (d : Option Tmp) (op : Op) (ty : TypeId) (pos : String) (af : Array Edge) (g g' : Option (Nat × Bool)) :
    Oper.semAt r ρ ⟨d, op, ty, pos, af, g⟩ = Oper.semAt r ρ ⟨d, op, ty, pos, af, g'⟩ := by
  cases r <;> cases op <;> rfl
theorem k9 {d : Option Tmp} {op : Op} {ty : TypeId} {pos : String} {af : Array Edge} {j : Nat} {b : Bool} {rest : List Oper} {c : Bool} (hj : gv ops F j = some (.bool c)) (hc : c = b)
    (h : St n D w0 F L (WL r P ops Q (⟨d, op, ty, pos, af, none⟩ :: rest))) : St n D w0 F L (WL r P ops Q (⟨d, op, ty, pos, af, some (j, b)⟩ :: rest)) := by
  intro a w ha hw
  subst hc
  have h1 := h a w ha hw
  show (if Region.wanted _ (yielded ops a.tmps) then _ else _)
  have hw1 : Region.wanted ⟨d, op, ty, pos, af, some (j, c)⟩ (yielded ops a.tmps) = true := by simp [Region.wanted, zA3 ha hj]
  have hw2 : Region.wanted ⟨d, op, ty, pos, af, none⟩ (yielded ops a.tmps) = true := rfl
  rw [if_pos hw1]
  have h1' : wpListIn (FR r) 0 P ops Q (⟨d, op, ty, pos, af, none⟩ :: rest) a w := h1
  simp only [wpListIn, hw2, if_true] at h1'
  refine ⟨fun _ _ => trivial, ?_⟩
  rw [yg0 _ _ _ _ _ _ _ _ none]
  exact h1'.2
theorem za5 {d : Tmp} {op : Op} {ty : TypeId} {pos : String} {af : Array Edge} {j : Nat} {b : Bool} {rest : List Oper} {c : Bool} (hj : gv ops F j = some (.bool c)) (hc : c = !b) (hd : Nat.ble (d + 1) n = true)
    (h : St n D w0 ((d, undef) :: F) L (WL r P ops Q rest)) : St n D w0 F L (WL r P ops Q (⟨some d, op, ty, pos, af, some (j, b)⟩ :: rest)) := by
  intro a w ha hw
  subst hc
  show (if Region.wanted _ (yielded ops a.tmps) then _ else _)
  have hw1 : Region.wanted ⟨some d, op, ty, pos, af, some (j, b)⟩ (yielded ops a.tmps) = false := by simp [Region.wanted, zA3 ha hj]
  rw [hw1]
  exact ⟨fun _ _ => trivial, h _ w (ha.put (Nat.le_of_ble_eq_true hd) undef) hw⟩
theorem zo4 {d : Tmp} {op : Op} {ty : TypeId} {pos : String} {af : Array Edge} {j : Nat} {b : Bool} {rest : List Oper} (hj : gv ops F j = some undef) (hd : Nat.ble (d + 1) n = true)
    (h : St n D w0 ((d, undef) :: F) L (WL r P ops Q rest)) : St n D w0 F L (WL r P ops Q (⟨some d, op, ty, pos, af, some (j, b)⟩ :: rest)) := by
  intro a w ha hw
  show (if Region.wanted _ (yielded ops a.tmps) then _ else _)
  have hw1 : Region.wanted ⟨some d, op, ty, pos, af, some (j, b)⟩ (yielded ops a.tmps) = false := by simp [Region.wanted, zF2 ha hj]
  rw [hw1]
  exact ⟨fun _ _ => trivial, h _ w (ha.put (Nat.le_of_ble_eq_true hd) undef) hw⟩
theorem yC3 {d : Option Tmp} {op : Op} {ty : TypeId} {pos : String} {af : Array Edge} {j : Nat} {b : Bool} {rest : List Oper} {c : Bool} (hj : gv ops F j = some (.bool c))
    (ht : c = true → St n D w0 F L (WL r P ops Q (⟨d, op, ty, pos, af, some (j, b)⟩ :: rest))) (hf : c = false → St n D w0 F L (WL r P ops Q (⟨d, op, ty, pos, af, some (j, b)⟩ :: rest))) :
    St n D w0 F L (WL r P ops Q (⟨d, op, ty, pos, af, some (j, b)⟩ :: rest)) := by
  cases c
  · exact hf rfl
  · exact ht rfl
theorem zd3 {d : Option Tmp} {op : Op} {ty : TypeId} {pos : String} {af : Array Edge} {j : Nat} {b : Bool} {rest : List Oper} {p : Prop} {_ : Decidable p} (hj : gv ops F j = some (.bool (decide p)))
    (ht : p → St n D w0 F L (WL r P ops Q (⟨d, op, ty, pos, af, some (j, b)⟩ :: rest))) (hf : ¬ p → St n D w0 F L (WL r P ops Q (⟨d, op, ty, pos, af, some (j, b)⟩ :: rest))) :
    St n D w0 F L (WL r P ops Q (⟨d, op, ty, pos, af, some (j, b)⟩ :: rest)) := yC3 hj (fun h => ht (of_decide_eq_true h)) (fun h => hf (of_decide_eq_false h))
theorem zf3 {d : Tmp} {op : Op} {ty : TypeId} {pos : String} {af : Array Edge} {rest : List Oper} {v : Value} (hnd : nd op = true) (hd : Nat.ble (d + 1) n = true)
    (hv : ∀ a w, Fr n D F a → Rep w0 w L → (execOp a.eval ⟨some d, op, ty, pos, af, none⟩).run P w = .ok (.value v) w)
    (h : St n D w0 ((d, v) :: F) L (WL r P ops Q rest)) : St n D w0 F L (WL r P ops Q (⟨some d, op, ty, pos, af, none⟩ :: rest)) :=
  zi0 rfl hnd fun a w ha hw => by
    rw [hv a w ha hw]
    exact h _ w (ha.put (Nat.le_of_ble_eq_true hd) v) hw
inductive Evs (F : List (Nat × Value)) : List Operand → List Value → Prop
  | nil : Evs F [] []
  | cons {x : Operand} {v : Value} {xs : List Operand} {vs : List Value} : ev F x = some v → Evs F xs vs → Evs F (x :: xs) (v :: vs)
theorem Evs.map {a : Act} (ha : Fr n D F a) {xs : List Operand} {vs : List Value} (h : Evs F xs vs) : xs.map a.eval = vs := by
  induction h with
  | nil => rfl
  | cons hx _ ih => simp [ha.eval hx, ih]
class TC (P : Program) (f : FuncId) (fn : outParam Func) : Prop where
  hf : P.funcs[f]? = some fn
  hb : ∃ c, fn.body = some c
  hn : (fn.name == "runtime.NumGoroutine") = false
theorem zG2 {f : FuncId} {fn : Func} [TC P f fn] {ρ : Operand → Value} {xs : List Operand} {vs : List Value} {d : Option Tmp} {ty : TypeId} {pos : String} {af : Array Edge} {g : Option (Nat × Bool)} {ats : Array TypeId} {w : World}
    (hxs : xs.map ρ = vs) {x : Operand} {caps : Array Value} (hx : ρ x = .func (.func f) #[] caps) :
    (execOp ρ ⟨d, .call ⟨.value x, xs.toArray, ats⟩, ty, pos, af, g⟩).run P w = .ok (.enter f (vs.toArray ++ caps)) w := by
  subst hxs
  obtain ⟨c, hb⟩ := TC.hb (P := P) (f := f)
  have hn' : ¬ fn.name = "runtime.NumGoroutine" := by simpa using TC.hn (P := P) (f := f)
  simp [execOp, resolve, Deferred.ofValue, hx, invoke, callFunc, TC.hf (P := P) (f := f), hb, hn']
theorem ya0 {d : Tmp} {f : FuncId} {fn : Func} [TC P f fn] {x : Operand} {caps : Array Value} {xs : List Operand} {vs : List Value} {ty : TypeId} {pos : String} {af : Array Edge} {ats : Array TypeId} {rest : List Oper}
    (hx : ev F x = some (.func (.func f) #[] caps)) (hd : Nat.ble (d + 1) n = true) (hxs : Evs F xs vs)
    {Φ : World → Value → World → Prop} (hc : ∀ w, Rep w0 w L → Calls P f (vs.toArray ++ caps) w fun e w' => ∃ v, e = .returned v ∧ Φ w v w')
    (h : ∀ w v, Rep w0 w L → ∀ a w', Φ w v w' → Fr n D ((d, v) :: F) a → WL r P ops Q rest a w') :
    St n D w0 F L (WL r P ops Q (⟨some d, .call ⟨.value x, xs.toArray, ats⟩, ty, pos, af, none⟩ :: rest)) :=
  zi0 rfl rfl fun a w ha hw => by
    rw [zG2 (hxs.map ha) (ha.eval hx)]
    refine ⟨(fun h => (by cases h)), zP1 ((hc w hw).mono ?_)⟩
    rintro e w' ⟨v, rfl, hΦ⟩
    exact h w v hw _ w' hΦ (ha.put (Nat.le_of_ble_eq_true hd) v)
theorem t8 {d : Tmp} {f : FuncId} {fn : Func} [TC P f fn] {xs : List Operand} {vs : List Value} {ty : TypeId} {pos : String} {af : Array Edge} {ats : Array TypeId} {rest : List Oper} {v : Value}
    (hd : Nat.ble (d + 1) n = true) (hxs : Evs F xs vs)
    (hc : ∀ w, Rep w0 w L → Calls P f vs.toArray w fun e w' => e = .returned v ∧ Below w.heap.size w w')
    (h : St n D w0 ((d, v) :: F) L (WL r P ops Q rest)) :
    St n D w0 F L (WL r P ops Q (⟨some d, .call ⟨.value (.func f), xs.toArray, ats⟩, ty, pos, af, none⟩ :: rest)) :=
  ya0 (x := .func f) (caps := #[]) (Φ := fun w u w' => u = v ∧ Below w.heap.size w w') rfl hd hxs (fun w hw => by
    rw [Array.append_empty]
    refine (hc w hw).mono ?_
    rintro e w' ⟨rfl, hB⟩
    exact ⟨v, rfl, rfl, hB⟩) (fun w u hw a w' hΦ ha => by obtain ⟨rfl, hB⟩ := hΦ; exact h a w' ha (hw.grow hB))
theorem Rep.beside {w w' : World} {N : List Ent} (h : Rep w0 w L) (hN : Rep w w' N) (ho : ∀ x ∈ N, x.own = true) : Rep w0 w' (N ++ L) := by
  have hg := h.grow (hN.below ho)
  refine ⟨hg.os, hg.tape, hg.output, hg.size, fun x hx => ?_, fun x hx hxo => ?_, ?_, fun b hb hx => hg.frame b hb fun x hxL => hx x (List.mem_append_right _ hxL)⟩
  · rcases List.mem_append.1 hx with hx | hx
    · exact hN.ok x hx
    · exact hg.ok x hx
  · rcases List.mem_append.1 hx with hx | hx
    · exact Nat.le_trans h.size (hN.own x hx hxo)
    · exact hg.own x hx hxo
  · rw [List.map_append, List.nodup_append]
    refine ⟨hN.nd, hg.nd, fun x hx y hy e => ?_⟩
    obtain ⟨x', hx', rfl⟩ := List.mem_map.1 hx
    obtain ⟨y', hy', rfl⟩ := List.mem_map.1 hy
    have h1 := hN.own x' hx' (ho x' hx')
    have h2 := h.lt hy'
    omega
theorem f5 {d : Tmp} {f : FuncId} {fn : Func} [TC P f fn] {xs : List Operand} {vs : List Value} {ty : TypeId} {pos : String} {af : Array Edge} {ats : Array TypeId} {rest : List Oper} {φ : Value → List Ent → Prop}
    (hd : Nat.ble (d + 1) n = true) (hxs : Evs F xs vs)
    (hc : ∀ w, Rep w0 w L → Calls P f vs.toArray w fun e w' => ∃ v N, e = .returned v ∧ φ v N ∧ Rep w w' N ∧ ∀ x ∈ N, x.own = true)
    (h : ∀ v N, φ v N → St n D w0 ((d, v) :: F) (N ++ L) (WL r P ops Q rest)) :
    St n D w0 F L (WL r P ops Q (⟨some d, .call ⟨.value (.func f), xs.toArray, ats⟩, ty, pos, af, none⟩ :: rest)) :=
  ya0 (x := .func f) (caps := #[]) (Φ := fun w u w' => ∃ N, φ u N ∧ Rep w w' N ∧ ∀ x ∈ N, x.own = true) rfl hd hxs (fun w hw => by
    rw [Array.append_empty]
    refine (hc w hw).mono ?_
    rintro e w' ⟨v, N, rfl, hφ, hN, ho⟩
    exact ⟨v, rfl, N, hφ, hN, ho⟩) (fun w u hw a w' hΦ ha => by
      obtain ⟨N, hφ, hN, ho⟩ := hΦ
      exact h u N hφ a w' ha (hw.beside hN ho))
def yG1 {σ : Type} (n : Nat) (D : List Deferred) (w0 : World) (Fs : σ → List (Nat × Value)) (Ls : σ → List Ent) (I : σ → Prop) (μ : σ → Nat) (s : σ) : Act → World → Prop :=
  fun a w => ∃ s', I s' ∧ μ s' < μ s ∧ Fr n D (Fs s') a ∧ Rep w0 w (Ls s')
def yM9 {σ : Type} (n : Nat) (D : List Deferred) (w0 : World) (Fs : σ → List (Nat × Value)) (Ls : σ → List Ent) (I : σ → Prop) : Act → World → Prop :=
  fun a w => ∃ s, I s ∧ Fr n D (Fs s) a ∧ Rep w0 w (Ls s)
theorem j9 {c : Code} {σ : Type} (Fs : σ → List (Nat × Value)) (Ls : σ → List Ent) (I : σ → Prop) (μ : σ → Nat) (s0 : σ) (hI : I s0) (hF : FSub (Fs s0) F) (hL : HSub (Ls s0) L)
    (round : ∀ s, I s → St n D w0 (Fs s) (Ls s) (WC r P c (Exit.then (yG1 n D w0 Fs Ls I μ s) Q))) :
    St n D w0 F L (WC r P (.loop c) Q) := by
  intro a w ha hw b k cs hro hb hr
  have key : ∀ (m : Nat) (s : σ), μ s = m → I s → ∀ a w, Fr n D (Fs s) a → Rep w0 w (Ls s) →
      ∃ e a' w', Q e a' w' ∧ ArrivesIn (Machine.fenced P (FR r)) P (lone (b.atR a (.code c :: .inLoop c :: k)) cs w) b k cs e a' w' := by
    intro m
    induction m using Nat.strongRecOn with
    | _ m ih =>
      intro s hm hIs a w ha hw
      obtain ⟨e, a₁, w₁, hq, harr⟩ := round s hIs a w ha hw b (.inLoop c :: k) cs hro hb hr
      cases e with
      | normal =>
        obtain ⟨s', hI', hlt, ha', hw'⟩ := hq
        obtain ⟨e₂, a₂, w₂, hq₂, harr₂⟩ := ih (μ s') (hm ▸ hlt) s' rfl hI' a₁ w₁ ha' hw'
        exact ⟨e₂, a₂, w₂, hq₂, .of_steps (StepsIn.trans harr (.one (fenced_calm hb hr rfl) stepR_inLoop)) harr₂⟩
      | exit id => exact ⟨_, a₁, w₁, hq, .pass (x := .inLoop c) rfl (fun _ _ => .inl (by simp)) harr⟩
      | goto l => exact ⟨_, a₁, w₁, hq, .pass (x := .inLoop c) rfl (fun _ _ => .inl (by simp)) harr⟩
      | ret => exact ⟨_, a₁, w₁, hq, .pass (x := .inLoop c) rfl (fun _ _ => .inl (by simp)) harr⟩
      | panic ch => exact ⟨_, a₁, w₁, hq, .pass (x := .inLoop c) rfl (fun _ _ => .inl (by simp)) harr⟩
      | outgrown => exact ⟨_, a₁, w₁, hq, .pass (x := .inLoop c) rfl (fun _ _ => .inl (by simp)) harr⟩
  obtain ⟨e, a', w', hq, harr⟩ := key _ s0 rfl hI a w (ha.sub hF) (hw.sub hL)
  exact ⟨e, a', w', hq, .of_steps (.one (fenced_calm hb hr rfl) stepR_loop) harr⟩
theorem o0 {σ : Type} {Fs : σ → List (Nat × Value)} {Ls : σ → List Ent} {I : σ → Prop} {μ : σ → Nat} {s : σ} (s' : σ) (hI : I s') (hμ : μ s' < μ s) (hF : FSub (Fs s') F) (hL : HSub (Ls s') L) :
    St n D w0 F L (yG1 n D w0 Fs Ls I μ s) :=
  fun _ _ ha hw => ⟨s', hI, hμ, ha.sub hF, hw.sub hL⟩
inductive FArgs : Nat → List Value → List (Nat × Value) → Prop
  | nil {k : Nat} : FArgs k [] []
  | cons {k : Nat} {v : Value} {l : List Value} {F : List (Nat × Value)} : FArgs (k + 1) l F → FArgs k (v :: l) ((k, v) :: F)
theorem FArgs.lk {k : Nat} {l : List Value} {F : List (Nat × Value)} (h : FArgs k l F) : ∀ t v, lk F t = some v → k ≤ t ∧ l[t - k]? = some v := by
  induction h with
  | nil => intro t v h; simp [Sx.lk] at h
  | @cons k u l F _ ih =>
    intro t v h
    rw [zZ5] at h
    by_cases e : k = t
    · subst e; simp at h; subst h; simp
    · simp [e] at h
      obtain ⟨h1, h2⟩ := ih t v h
      refine ⟨by omega, ?_⟩
      have : t - k = (t - (k + 1)) + 1 := by omega
      rw [this]; simpa using h2
theorem zH3 {f : FuncId} {fn : Func} {c : Code} {l : List Value} {w : World} {R : Ending → World → Prop} (hf : P.funcs[f]? = some fn) (hb : fn.body = some c) (hn : fn.ntmps = n) (hl : Nat.ble l.length n = true)
    (hF : FArgs 0 l F) (hw : Rep w w L) (h : St n [] w F L (WC none P c (bodyPost P fn R))) : Calls P f l.toArray w R := by
  refine zB0 (callsIn_of_wp hf hb trivial (h _ _ ⟨?_, rfl, fun t v ht => ?_⟩ hw))
  · have := Nat.le_of_ble_eq_true hl
    simp [hn]; omega
  · obtain ⟨_, h2⟩ := hF.lk t v ht
    simp only [Nat.sub_zero] at h2
    have hlt := (List.getElem?_eq_some_iff.1 h2).1
    rw [Array.getElem?_append_left (by simpa using hlt)]
    simpa using h2
theorem zP8 {f : FuncId} {fn : Func} {c : Code} {w : World} {R : Ending → World → Prop} (hf : P.funcs[f]? = some fn) (hb : fn.body = some c) (hn : fn.ntmps = n) (hl : Nat.ble 0 n = true)
    (hw : Rep w w L) (h : St n [] w [] L (WC none P c (bodyPost P fn R))) : Calls P f #[] w R := zH3 (l := []) hf hb hn hl FArgs.nil hw h
theorem zd2 {f : FuncId} {fn : Func} {c : Code} {v0 : Value} {w : World} {R : Ending → World → Prop} (hf : P.funcs[f]? = some fn) (hb : fn.body = some c) (hn : fn.ntmps = n) (hl : Nat.ble 1 n = true)
    (hw : Rep w w L) (h : St n [] w [(0, v0)] L (WC none P c (bodyPost P fn R))) : Calls P f #[v0] w R := zH3 (l := [v0]) hf hb hn hl (.cons .nil) hw h
theorem za8 {f : FuncId} {fn : Func} {c : Code} {v0 v1 : Value} {w : World} {R : Ending → World → Prop} (hf : P.funcs[f]? = some fn) (hb : fn.body = some c) (hn : fn.ntmps = n) (hl : Nat.ble 2 n = true)
    (hw : Rep w w L) (h : St n [] w [(0, v0), (1, v1)] L (WC none P c (bodyPost P fn R))) : Calls P f #[v0, v1] w R := zH3 (l := [v0, v1]) hf hb hn hl (.cons (.cons .nil)) hw h
theorem zd8 {f : FuncId} {fn : Func} {c : Code} {v0 v1 v2 : Value} {w : World} {R : Ending → World → Prop} (hf : P.funcs[f]? = some fn) (hb : fn.body = some c) (hn : fn.ntmps = n) (hl : Nat.ble 3 n = true)
    (hw : Rep w w L) (h : St n [] w [(0, v0), (1, v1), (2, v2)] L (WC none P c (bodyPost P fn R))) : Calls P f #[v0, v1, v2] w R := zH3 (l := [v0, v1, v2]) hf hb hn hl (.cons (.cons (.cons .nil))) hw h
theorem yd2 {f : FuncId} {fn : Func} {c : Code} {v0 v1 v2 v3 : Value} {w : World} {R : Ending → World → Prop} (hf : P.funcs[f]? = some fn) (hb : fn.body = some c) (hn : fn.ntmps = n) (hl : Nat.ble 4 n = true)
    (hw : Rep w w L) (h : St n [] w [(0, v0), (1, v1), (2, v2), (3, v3)] L (WC none P c (bodyPost P fn R))) : Calls P f #[v0, v1, v2, v3] w R := zH3 (l := [v0, v1, v2, v3]) hf hb hn hl (.cons (.cons (.cons (.cons .nil)))) hw h
def Kn (w0 : World) (L : List Ent) (b : Nat) (o : Obj) : Prop := ∀ w, Rep w0 w L → w.heap[b]? = some o
theorem Kn.at {b : Nat} {o : Obj} (h : At L b o) : Kn w0 L b o := fun _ hw => hw.at h
theorem Kn.old {b : Nat} {o : Obj} (h : w0.heap[b]? = some o) (hl : L.all (·.own) = true) : Kn w0 L b o := fun w hw => by
  have hlt := (Array.getElem?_eq_some_iff.1 h).1
  rw [(hw.below (by simpa using hl)).block b hlt]; exact h
theorem Kn.oldA {b : Nat} {o : Obj} (h : w0.heap[b]? = some o) (hl : AO L) : Kn w0 L b o := fun w hw => by
  have hlt := (Array.getElem?_eq_some_iff.1 h).1
  rw [(hw.below hl).block b hlt]; exact h
inductive Apart (b : Nat) : List Ent → Prop
  | nil : Apart b []
  | own {c : Nat} {o : Obj} {L : List Ent} : Apart b L → Apart b (⟨c, o, true⟩ :: L)
  | given {c : Nat} {o : Obj} {fl : Bool} {L : List Ent} : c ≠ b → Apart b L → Apart b (⟨c, o, fl⟩ :: L)
  | app {N L : List Ent} : (∀ x ∈ N, x.own = true) → Apart b L → Apart b (N ++ L)
theorem Apart.ne {b : Nat} {L : List Ent} (h : Apart b L) : ∀ x ∈ L, x.own = false → x.b ≠ b := by
  induction h with
  | nil => intro x hx; cases hx
  | own _ ih =>
    intro x hx ho
    rcases List.mem_cons.1 hx with rfl | hx
    · cases ho
    · exact ih x hx ho
  | given hne _ ih =>
    intro x hx ho
    rcases List.mem_cons.1 hx with rfl | hx
    · exact hne
    · exact ih x hx ho
  | app hN _ ih =>
    intro x hx ho
    rcases List.mem_append.1 hx with hx | hx
    · rw [hN x hx] at ho; cases ho
    · exact ih x hx ho
theorem Kn.apart {b : Nat} {o : Obj} (h : w0.heap[b]? = some o) (hl : Apart b L) : Kn w0 L b o := fun w hw => by
  have hlt := (Array.getElem?_eq_some_iff.1 h).1
  rw [hw.frame b hlt fun x hx e => ?_]; exact h
  cases ho : x.own with
  | true => have := hw.own x hx ho; omega
  | false => exact hl.ne x hx ho e
theorem Rep.apart {w : World} {G L0 : List Ent} {b : Nat} {o : Obj} (h : Rep w0 w (G ++ L0)) (ha : At L0 b o) : ∀ x ∈ G, x.b ≠ b := by
  have hnd := h.nd
  rw [List.map_append, List.nodup_append] at hnd
  obtain ⟨f, hf⟩ := ha.mem
  exact fun x hx => hnd.2.2 _ (List.mem_map.2 ⟨x, hx, rfl⟩) _ (List.mem_map.2 ⟨_, hf, rfl⟩)
end
end Go.Sx
namespace Go.Sx
open Go Go.RowKit
class TU (P : Program) (t : TypeId) (d : outParam TypeDesc) : Prop where
  h : P.underlying t = some d
class TS (P : Program) (t : TypeId) (sz : outParam Nat) : Prop where
  h : ∀ w, (sizeOf t).run P w = .ok sz w
class TA (P : Program) (t : TypeId) (b : outParam Bool) : Prop where
  h : ∀ w, (isAgg t).run P w = .ok b w
class TBy (P : Program) (t : TypeId) (n : outParam Nat) : Prop where
  h : ∀ w, ∃ i : TypeInfo, (typeInfo t).run P w = .ok i w ∧ i.bytes = n
class TZ (P : Program) (t : TypeId) (z : outParam Value) (zl : outParam (List Value)) : Prop where
  h : ∀ w, (zeroValue t).run P w = .ok z w
  hc : z.cells = zl.toArray
section
variable {P : Program}
theorem zb2 {t : TypeId} {d : TypeDesc} (h : P.underlying t = some d) (w : World) : (underlying t).run P w = .ok d w := by
  simp [underlying, h]
variable {r : Option Nat} {n : Nat} {D : List Deferred} {w0 : World} {F : List (Nat × Value)} {L : List Ent} {Q : Exit → Act → World → Prop} {ops : Array Oper}
variable {d : Tmp} {ty : TypeId} {pos : String} {af : Array Edge} {rest : List Oper}
theorem w9 {x : Operand} {v : Value} (hx : ev F x = some v) (hd : Nat.ble (d + 1) n = true) (h : St n D w0 ((d, v) :: F) L (WL r P ops Q rest)) :
    St n D w0 F L (WL r P ops Q (⟨some d, .move x, ty, pos, af, none⟩ :: rest)) :=
  zf3 rfl hd (fun a w ha _ => by simp [execOp, ha.eval hx]) h
theorem y8 {x : Operand} {v : Value} (hx : ev F x = some v) (hd : Nat.ble (d + 1) n = true) (h : St n D w0 ((d, v) :: F) L (WL r P ops Q rest)) :
    St n D w0 F L (WL r P ops Q (⟨some d, .assign x, ty, pos, af, none⟩ :: rest)) :=
  zf3 rfl hd (fun a w ha _ => by simp [execOp, ha.eval hx]) h
theorem n8 {c x y : Operand} {b : Bool} {v : Value} (hc : ev F c = some (.bool b)) (hb : b = true) (hx : ev F x = some v) (hd : Nat.ble (d + 1) n = true) (h : St n D w0 ((d, v) :: F) L (WL r P ops Q rest)) :
    St n D w0 F L (WL r P ops Q (⟨some d, .pick c x y, ty, pos, af, none⟩ :: rest)) :=
  zf3 rfl hd (fun a w ha _ => by subst hb; simp [execOp, ha.eval hx, ha.eval hc, asBool]) h
theorem p9 {c x y : Operand} {b : Bool} {v : Value} (hc : ev F c = some (.bool b)) (hb : b = false) (hy : ev F y = some v) (hd : Nat.ble (d + 1) n = true) (h : St n D w0 ((d, v) :: F) L (WL r P ops Q rest)) :
    St n D w0 F L (WL r P ops Q (⟨some d, .pick c x y, ty, pos, af, none⟩ :: rest)) :=
  zf3 rfl hd (fun a w ha _ => by subst hb; simp [execOp, ha.eval hy, ha.eval hc, asBool]) h
theorem zd5 {x : Operand} {b : Bool} {t : TypeId} (hx : ev F x = some (.bool b)) (hd : Nat.ble (d + 1) n = true) (h : St n D w0 ((d, .bool !b) :: F) L (WL r P ops Q rest)) :
    St n D w0 F L (WL r P ops Q (⟨some d, .unOp .not t x, ty, pos, af, none⟩ :: rest)) :=
  zf3 rfl hd (fun a w ha _ => by simp [execOp, ha.eval hx, Op.unary]) h
theorem p4 {x : Operand} {p : Prop} {_ : Decidable p} {t : TypeId} (hx : ev F x = some (.bool (decide p))) (hd : Nat.ble (d + 1) n = true) (h : St n D w0 ((d, .bool (decide (¬ p))) :: F) L (WL r P ops Q rest)) :
    St n D w0 F L (WL r P ops Q (⟨some d, .unOp .not t x, ty, pos, af, none⟩ :: rest)) :=
  zd5 hx hd (by rw [← decide_not]; exact h)
theorem p0 {x : Operand} {vs : Array Value} {i : Nat} {v : Value} (hx : ev F x = some (.tuple vs)) (hi : vs[i]? = some v) (hd : Nat.ble (d + 1) n = true) (h : St n D w0 ((d, v) :: F) L (WL r P ops Q rest)) :
    St n D w0 F L (WL r P ops Q (⟨some d, .extract x i, ty, pos, af, none⟩ :: rest)) :=
  zf3 rfl hd (fun a w ha _ => by simp [execOp, ha.eval hx, Instr.extract, hi]) h
section
variable {x y : Operand} {k : IntKind} {m l : Int} {t u : TypeId} (hx : ev F x = some (.int k m)) (hy : ev F y = some (.int k l)) (hd : Nat.ble (d + 1) n = true)
include hx hy hd
theorem p3 (h : St n D w0 ((d, .bool (decide (m < l))) :: F) L (WL r P ops Q rest)) : St n D w0 F L (WL r P ops Q (⟨some d, .binOp .lss t x y u, ty, pos, af, none⟩ :: rest)) :=
  zf3 rfl hd (fun a w ha _ => by simp [execOp, ha.eval hx, ha.eval hy, eqGuard, binOp, Op.intCmp]) h
theorem zc8 (h : St n D w0 ((d, .bool (decide (m ≤ l))) :: F) L (WL r P ops Q rest)) : St n D w0 F L (WL r P ops Q (⟨some d, .binOp .leq t x y u, ty, pos, af, none⟩ :: rest)) :=
  zf3 rfl hd (fun a w ha _ => by simp [execOp, ha.eval hx, ha.eval hy, eqGuard, binOp, Op.intCmp]) h
theorem o8 (h : St n D w0 ((d, .bool (decide (m > l))) :: F) L (WL r P ops Q rest)) : St n D w0 F L (WL r P ops Q (⟨some d, .binOp .gtr t x y u, ty, pos, af, none⟩ :: rest)) :=
  zf3 rfl hd (fun a w ha _ => by simp [execOp, ha.eval hx, ha.eval hy, eqGuard, binOp, Op.intCmp]) h
theorem d9 (h : St n D w0 ((d, .bool (decide (m ≥ l))) :: F) L (WL r P ops Q rest)) : St n D w0 F L (WL r P ops Q (⟨some d, .binOp .geq t x y u, ty, pos, af, none⟩ :: rest)) :=
  zf3 rfl hd (fun a w ha _ => by simp [execOp, ha.eval hx, ha.eval hy, eqGuard, binOp, Op.intCmp]) h
theorem l0 (h : St n D w0 ((d, .bool (decide (m = l))) :: F) L (WL r P ops Q rest)) : St n D w0 F L (WL r P ops Q (⟨some d, .binOp .eql t x y u, ty, pos, af, none⟩ :: rest)) :=
  zf3 rfl hd (fun a w ha _ => by simp [execOp, ha.eval hx, ha.eval hy, eqGuard, binOp, Op.intCmp]; rfl) h
theorem l8 (h : St n D w0 ((d, .bool (decide (m ≠ l))) :: F) L (WL r P ops Q rest)) : St n D w0 F L (WL r P ops Q (⟨some d, .binOp .neq t x y u, ty, pos, af, none⟩ :: rest)) :=
  zf3 rfl hd (fun a w ha _ => by simp [execOp, ha.eval hx, ha.eval hy, eqGuard, binOp, Op.intCmp, bne, decide_not]; rfl) h
theorem yD2 (h : St n D w0 ((d, .int k (k.wrap (m + l))) :: F) L (WL r P ops Q rest)) : St n D w0 F L (WL r P ops Q (⟨some d, .binOp .add t x y u, ty, pos, af, none⟩ :: rest)) :=
  zf3 rfl hd (fun a w ha _ => by simp [execOp, ha.eval hx, ha.eval hy, eqGuard, binOp, Op.intArith]) h
theorem yE2 (h : St n D w0 ((d, .int k (k.wrap (m - l))) :: F) L (WL r P ops Q rest)) : St n D w0 F L (WL r P ops Q (⟨some d, .binOp .sub t x y u, ty, pos, af, none⟩ :: rest)) :=
  zf3 rfl hd (fun a w ha _ => by simp [execOp, ha.eval hx, ha.eval hy, eqGuard, binOp, Op.intArith]) h
theorem yD8 (h : St n D w0 ((d, .int k (k.wrap (m * l))) :: F) L (WL r P ops Q rest)) : St n D w0 F L (WL r P ops Q (⟨some d, .binOp .mul t x y u, ty, pos, af, none⟩ :: rest)) :=
  zf3 rfl hd (fun a w ha _ => by simp [execOp, ha.eval hx, ha.eval hy, eqGuard, binOp, Op.intArith]) h
theorem yE1 (hl : l ≠ 0) (h : St n D w0 ((d, .int k (k.wrap (m.tdiv l))) :: F) L (WL r P ops Q rest)) : St n D w0 F L (WL r P ops Q (⟨some d, .binOp .quo t x y u, ty, pos, af, none⟩ :: rest)) :=
  zf3 rfl hd (fun a w ha _ => by simp [execOp, ha.eval hx, ha.eval hy, eqGuard, binOp, Op.intDiv, hl]) h
end
theorem zA2 {z : Int} (h1 : -9223372036854775808 ≤ z) (h2 : z ≤ 9223372036854775807) : IntKind.i64.wrap z = z := IntWalk.i64_in z ⟨h1, h2⟩
section
variable {x y : Operand} {m l : Int} {t u : TypeId} (hx : ev F x = some (.int .i64 m)) (hy : ev F y = some (.int .i64 l)) (hd : Nat.ble (d + 1) n = true)
include hx hy hd
theorem j0 (hr : -9223372036854775808 ≤ m + l ∧ m + l ≤ 9223372036854775807) (h : St n D w0 ((d, .int .i64 (m + l)) :: F) L (WL r P ops Q rest)) : St n D w0 F L (WL r P ops Q (⟨some d, .binOp .add t x y u, ty, pos, af, none⟩ :: rest)) :=
  yD2 hx hy hd (by rw [zA2 hr.1 hr.2]; exact h)
theorem ze5 (hr : -9223372036854775808 ≤ m - l ∧ m - l ≤ 9223372036854775807) (h : St n D w0 ((d, .int .i64 (m - l)) :: F) L (WL r P ops Q rest)) : St n D w0 F L (WL r P ops Q (⟨some d, .binOp .sub t x y u, ty, pos, af, none⟩ :: rest)) :=
  yE2 hx hy hd (by rw [zA2 hr.1 hr.2]; exact h)
theorem zt7 (hr : -9223372036854775808 ≤ m * l ∧ m * l ≤ 9223372036854775807) (h : St n D w0 ((d, .int .i64 (m * l)) :: F) L (WL r P ops Q rest)) : St n D w0 F L (WL r P ops Q (⟨some d, .binOp .mul t x y u, ty, pos, af, none⟩ :: rest)) :=
  yD8 hx hy hd (by rw [zA2 hr.1 hr.2]; exact h)
theorem yH0 (hr : 0 ≤ m ∧ 0 < l ∧ m ≤ 9223372036854775807) (h : St n D w0 ((d, .int .i64 (m / l)) :: F) L (WL r P ops Q rest)) : St n D w0 F L (WL r P ops Q (⟨some d, .binOp .quo t x y u, ty, pos, af, none⟩ :: rest)) :=
  yE1 hx hy hd (by omega) (by
    have h1 : m.tdiv l = m / l := Int.tdiv_eq_ediv_of_nonneg hr.1
    have h2 : 0 ≤ m / l := Int.ediv_nonneg hr.1 (by omega)
    have h3 : m / l ≤ m := Int.ediv_le_self l hr.1
    rw [h1, zA2 (by omega) (by omega)]; exact h)
end
theorem zr5 {x : Operand} {k k' : IntKind} {m : Int} {s t : TypeId} {ds : TypeDesc} [TU P s ds] [TU P t (.int k')] (hx : ev F x = some (.int k m)) (hd : Nat.ble (d + 1) n = true)
    (h : St n D w0 ((d, .int k' (k'.wrap m)) :: F) L (WL r P ops Q rest)) : St n D w0 F L (WL r P ops Q (⟨some d, .convert s t x, ty, pos, af, none⟩ :: rest)) :=
  zf3 rfl hd (fun a w ha _ => by
    simp [execOp, ha.eval hx, convert, zb2 (TU.h (P := P) (t := t)), zb2 (TU.h (P := P) (t := s)), Conv.intToInt]) h
end
end Go.Sx
namespace Go.Sx
open Go Go.RowKit
@[reducible] def Ce (l : List Value) (e : TypeId) : Obj := .cells l.toArray e (0, 0)
section
variable {r : Option Nat} {P : Program} {n : Nat} {D : List Deferred} {w0 : World} {F : List (Nat × Value)} {L : List Ent} {Q : Exit → Act → World → Prop} {ops : Array Oper}
variable {d : Tmp} {ty : TypeId} {pos : String} {af : Array Edge} {rest : List Oper}
theorem Rep.turn {w w' : World} {L' : List Ent} (h : Rep w0 w L) {b : Nat} {o o' : Obj} (hu : Upd L b o o' L') (h1 : w'.os = w.os) (h2 : w'.tape = w.tape) (h3 : w'.output = w.output) (h4 : w'.heap.size = w.heap.size)
    (h5 : w'.heap[b]? = some o') (h6 : ∀ k : Nat, k ≠ b → w'.heap[k]? = w.heap[k]?) : Rep w0 w' L' := by
  have hs := h.upd hu
  have heq : ∀ k : Nat, w'.heap[k]? = (zl6 w b o').heap[k]? := by
    intro k
    by_cases e : k = b
    · subst e
      rw [h5, zM7 (h.at hu.at)]
    · rw [h6 k e, zz7 (Ne.symm e)]
  exact ⟨h1.trans h.os, h2.trans h.tape, h3.trans h.output, by rw [h4]; exact h.size, fun x hx => by rw [heq]; exact hs.ok x hx, hs.own, hs.nd, fun b hb hx => by rw [heq]; exact hs.frame b hb hx⟩
theorem o7 {e : TypeId} {z : Value} {l : List Value} [TZ P e z l] (hd : Nat.ble (d + 1) n = true)
    (h : ∀ b, St n D w0 ((d, .pointer (some ⟨b, 0, none⟩)) :: F) (⟨b, Ce l e, true⟩ :: L) (WL r P ops Q rest)) :
    St n D w0 F L (WL r P ops Q (⟨some d, .alloc e, ty, pos, af, none⟩ :: rest)) :=
  zi0 rfl rfl fun a w ha hw => by
    have hr : (execOp a.eval ⟨some d, .alloc e, ty, pos, af, none⟩).run P w = .ok (.value (.pointer (some ⟨w.heap.size, 0, none⟩))) (w.alloc (Ce l e)) := by
      simp [execOp, Instr.alloc, TZ.h (P := P) (t := e), newVar, newRow, TZ.hc (P := P) (t := e)]
    rw [hr]
    exact h _ _ _ (ha.put (Nat.le_of_ble_eq_true hd) _) (hw.alloc _)
theorem zc5 {e : TypeId} {x : Operand} {v : Value} {l : List Value} (hx : ev F x = some v) (hv : v.cells = l.toArray) (hd : Nat.ble (d + 1) n = true)
    (h : ∀ b, St n D w0 ((d, .pointer (some ⟨b, 0, none⟩)) :: F) (⟨b, Ce l e, true⟩ :: L) (WL r P ops Q rest)) :
    St n D w0 F L (WL r P ops Q (⟨some d, .box e x, ty, pos, af, none⟩ :: rest)) :=
  zi0 rfl rfl fun a w ha hw => by
    have hr : (execOp a.eval ⟨some d, .box e x, ty, pos, af, none⟩).run P w = .ok (.value (.pointer (some ⟨w.heap.size, 0, none⟩))) (w.alloc (Ce l e)) := by
      simp [execOp, Instr.box, ha.eval hx, newVar, newRow, hv]
    rw [hr]
    exact h _ _ _ (ha.put (Nat.le_of_ble_eq_true hd) _) (hw.alloc _)
theorem zh8 (b off k : Nat) : (⟨b, off, none⟩ : Addr).add k = ⟨b, off + k, none⟩ := by
  unfold Addr.add; split <;> simp_all
class TF (P : Program) (s : TypeId) (i : Nat) (o : outParam Nat) : Prop where
  h : ∀ b off w, (Instr.fieldAt s (.pointer (some ⟨b, off, none⟩)) i).run P w = .ok (.pointer (some ⟨b, off + o, none⟩)) w
theorem TF.mk' {s : TypeId} {i o k : Nat} {fs : Array Field} {f : Field} (hu : P.underlying s = some (.struct fs)) (hf : fs[i]? = some f) (ho : f.offset = o) (hs : ∀ w, (sizeOf f.type).run P w = .ok (k + 1) w) : TF P s i o :=
  ⟨fun b off w => by simp [Instr.fieldAt, zb2 hu, hf, Instr.sureAddr, fieldPlace, hs, ho, zh8]⟩
theorem x8 {s : TypeId} {x : Operand} {i o b : Nat} [TF P s i o] (hx : ev F x = some (.pointer (some ⟨b, 0, none⟩))) (hd : Nat.ble (d + 1) n = true)
    (h : St n D w0 ((d, .pointer (some ⟨b, o, none⟩)) :: F) L (WL r P ops Q rest)) : St n D w0 F L (WL r P ops Q (⟨some d, .fieldAddr s x i, ty, pos, af, none⟩ :: rest)) :=
  zf3 rfl hd (fun a w ha _ => by simp [execOp, ha.eval hx, TF.h (P := P) (s := s) (i := i)]) h
theorem za7 {s : TypeId} {x : Operand} {i o b off : Nat} [TF P s i o] (hx : ev F x = some (.pointer (some ⟨b, off, none⟩))) (hd : Nat.ble (d + 1) n = true)
    (h : St n D w0 ((d, .pointer (some ⟨b, off + o, none⟩)) :: F) L (WL r P ops Q rest)) : St n D w0 F L (WL r P ops Q (⟨some d, .fieldAddr s x i, ty, pos, af, none⟩ :: rest)) :=
  zf3 rfl hd (fun a w ha _ => by simp [execOp, ha.eval hx, TF.h (P := P) (s := s) (i := i)]) h
theorem n0 {x : Operand} {p : Addr} (hx : ev F x = some (.pointer (some p))) (hd : Nat.ble (d + 1) n = true)
    (h : St n D w0 ((d, .pointer (some p)) :: F) L (WL r P ops Q rest)) : St n D w0 F L (WL r P ops Q (⟨some d, .nilCheck x, ty, pos, af, none⟩ :: rest)) :=
  zf3 rfl hd (fun a w ha _ => by simp [execOp, ha.eval hx]) h
class TFV (P : Program) (s : TypeId) (i : Nat) (o : outParam Nat) (k : outParam Nat) (agg : outParam Bool) : Prop where
  h : ∀ cs w, (Instr.field s (.agg cs) i).run P w = (if agg then .ok (.agg (cs.extract o (o + k))) w else (match cs[o]? with | some v => .ok v w | none => .halt (.stuck "part: no such cell") w))
inductive Nth : List Value → Nat → Value → Prop
  | z {v : Value} {l : List Value} : Nth (v :: l) 0 v
  | s {a v : Value} {l : List Value} {i : Nat} : Nth l i v → Nth (a :: l) (i + 1) v
theorem Nth.eq {l : List Value} {i : Nat} {v : Value} (h : Nth l i v) : l[i]? = some v := by
  induction h with
  | z => rfl
  | s _ ih => simpa using ih
theorem yo0 {t e : TypeId} {x : Operand} {b off : Nat} {c : Array Value} {fz : Nat × Nat} {v : Value} [TA P t false] (hx : ev F x = some (.pointer (some ⟨b, off, none⟩))) (hk : Kn w0 L b (.cells c e fz)) (hv : c[off]? = some v)
    (hd : Nat.ble (d + 1) n = true) (h : St n D w0 ((d, v) :: F) L (WL r P ops Q rest)) : St n D w0 F L (WL r P ops Q (⟨some d, .load t x, ty, pos, af, none⟩ :: rest)) :=
  zf3 rfl hd (fun a w ha hw => by
    have hc : w.cell? ⟨b, off, none⟩ = some v := by simp [World.cell?, hk w hw, hv]
    simp [execOp, ha.eval hx, Instr.loadAt, Instr.sureAddr, loadVar, TA.h (P := P) (t := t), hc]) h
theorem yJ1 {t e : TypeId} {x : Operand} {b off : Nat} {l : List Value} {fz : Nat × Nat} {v : Value} (hA : TA P t false) (hx : ev F x = some (.pointer (some ⟨b, off, none⟩))) (hk : Kn w0 L b (.cells l.toArray e fz)) (hv : Nth l off v)
    (hd : Nat.ble (d + 1) n = true) (h : St n D w0 ((d, v) :: F) L (WL r P ops Q rest)) : St n D w0 F L (WL r P ops Q (⟨some d, .load t x, ty, pos, af, none⟩ :: rest)) :=
  yo0 hx hk (by simpa using hv.eq) hd h
theorem yD6 {t e : TypeId} {k : Nat} {x : Operand} {b off : Nat} {c : Array Value} {fz : Nat × Nat} {l : List Value} [TA P t true] [TS P t k] (hx : ev F x = some (.pointer (some ⟨b, off, none⟩))) (hk : Kn w0 L b (.cells c e fz))
    (hl : l.length = k) (hv : ∀ j v, l[j]? = some v → c[off + j]? = some v)
    (hd : Nat.ble (d + 1) n = true) (h : St n D w0 ((d, .agg l.toArray) :: F) L (WL r P ops Q rest)) : St n D w0 F L (WL r P ops Q (⟨some d, .load t x, ty, pos, af, none⟩ :: rest)) :=
  zf3 rfl hd (fun a w ha hw => by
    subst hl
    have hc := run_loadCells_list (P := P) w ⟨b, off, none⟩ l (fun j v hj => by rw [zh8]; simp [World.cell?, hk w hw, hv j v hj])
    simp [execOp, ha.eval hx, Instr.loadAt, Instr.sureAddr, loadVar, TA.h (P := P) (t := t), TS.h (P := P) (t := t), hc]) h
theorem yr0 {t e : TypeId} {k : Nat} {x : Operand} {b : Nat} {l : List Value} {fz : Nat × Nat} (hA : TA P t true) (hS : TS P t k) (hx : ev F x = some (.pointer (some ⟨b, 0, none⟩))) (hk : Kn w0 L b (.cells l.toArray e fz))
    (hl : l.length = k) (hd : Nat.ble (d + 1) n = true) (h : St n D w0 ((d, .agg l.toArray) :: F) L (WL r P ops Q rest)) : St n D w0 F L (WL r P ops Q (⟨some d, .load t x, ty, pos, af, none⟩ :: rest)) :=
  yD6 hx hk hl (fun j v hj => by simpa using hj) hd h
inductive LPut : List Value → Nat → List Value → List Value → Prop
  | done {l : List Value} : LPut l 0 [] l
  | put {a v : Value} {l vs l' : List Value} : LPut l 0 vs l' → LPut (a :: l) 0 (v :: vs) (v :: l')
  | skip {a : Value} {l vs l' : List Value} {i : Nat} : LPut l i vs l' → LPut (a :: l) (i + 1) vs (a :: l')
theorem LPut.eq {l vs l' : List Value} {i : Nat} (h : LPut l i vs l') : i + vs.length ≤ l.length ∧ l' = l.take i ++ vs ++ l.drop (i + vs.length) := by
  induction h with
  | done => simp
  | put _ ih =>
    obtain ⟨h1, h2⟩ := ih
    refine ⟨by simp at h1 ⊢; omega, ?_⟩
    simp at h2 ⊢; exact h2
  | @skip a l vs l' i _ ih =>
    obtain ⟨h1, h2⟩ := ih
    refine ⟨by simp; omega, ?_⟩
    rw [show i + 1 + vs.length = (i + vs.length) + 1 from by omega]
    simp at h2 ⊢; exact h2
theorem zz6 {t e : TypeId} {b off : Nat} {v : Value} {l l' vs : List Value} {w : World} (hs : (sizeOf t).run P w = .ok vs.length w) (hvs : v.cells = vs.toArray) (hb : w.heap[b]? = some (Ce l e)) (h1 : ∀ u ∈ vs, u.oneCell' = true)
    (hl : off + vs.length ≤ l.length) (hl' : l' = l.take off ++ vs ++ l.drop (off + vs.length)) :
    (storeVar t ⟨b, off, none⟩ v).run P w = .ok () (w.setRow b l'.toArray) := by
  have hst := run_storeCells_at (P := P) b off e vs 0 l.toArray w hb (by simp; omega) h1
  subst hl'
  simp only [Nat.add_zero] at hst
  simp [storeVar, hs, hvs, hst]
theorem zR2 {t e : TypeId} {k : Nat} {x y : Operand} {b off : Nat} {v : Value} {l l' vs : List Value} {L' : List Ent} [TS P t k] (hx : ev F x = some (.pointer (some ⟨b, off, none⟩))) (hy : ev F y = some v) (hvs : v.cells = vs.toArray) (hk : vs.length = k)
    (h1 : ∀ u ∈ vs, u.oneCell' = true) (hl : off + vs.length ≤ l.length) (hl' : l' = l.take off ++ vs ++ l.drop (off + vs.length)) (hu : Upd L b (Ce l e) (Ce l' e) L') (h : St n D w0 F L' (WL r P ops Q rest)) :
    St n D w0 F L (WL r P ops Q (⟨none, .store t x y, ty, pos, af, none⟩ :: rest)) :=
  zi0 rfl rfl fun a w ha hw => by
    subst hk
    have hb := hw.at hu.at
    have hst := zz6 (P := P) (t := t) (TS.h w) hvs hb h1 hl hl'
    have hr : (execOp a.eval ⟨none, .store t x y, ty, pos, af, none⟩).run P w = .ok .skip (w.setRow b l'.toArray) := by
      simp [execOp, ha.eval hx, ha.eval hy, Instr.storeAt, Instr.sureAddr, hst]
    rw [hr]
    exact h _ _ (ha.put_none _) (hw.turn hu rfl rfl rfl (by simp) (setRow_heap w b _ _ e _ hb) (fun k hk => setRow_other w b k _ hk))
theorem ye5 {t e : TypeId} {x y : Operand} {b off : Nat} {v : Value} {l l' : List Value} {L' : List Ent} (hS : TS P t 1) (hx : ev F x = some (.pointer (some ⟨b, off, none⟩))) (hy : ev F y = some v) (h1 : v.oneCell' = true)
    (hat : At L b (Ce l e)) (hp : LPut l off [v] l') (hu : Upd L b (Ce l e) (Ce l' e) L') (h : St n D w0 F L' (WL r P ops Q rest)) :
    St n D w0 F L (WL r P ops Q (⟨none, .store t x y, ty, pos, af, none⟩ :: rest)) :=
  zR2 (k := 1) (vs := [v]) hx hy (by cases v <;> first | rfl | simp [Value.oneCell'] at h1) rfl (by simpa using h1) hp.eq.1 hp.eq.2 hu h
theorem yx4 {t e : TypeId} {k : Nat} {x y : Operand} {b off : Nat} {vs l l' : List Value} {L' : List Ent} (hS : TS P t k) (hx : ev F x = some (.pointer (some ⟨b, off, none⟩))) (hy : ev F y = some (.agg vs.toArray)) (hk : vs.length = k)
    (h1 : vs.all (·.oneCell') = true) (hat : At L b (Ce l e)) (hp : LPut l off vs l') (hu : Upd L b (Ce l e) (Ce l' e) L') (h : St n D w0 F L' (WL r P ops Q rest)) :
    St n D w0 F L (WL r P ops Q (⟨none, .store t x y, ty, pos, af, none⟩ :: rest)) :=
  zR2 hx hy rfl hk (by simpa using h1) hp.eq.1 hp.eq.2 hu h
end
end Go.Sx
namespace Go.Sx
open Go Go.RowKit
section
variable {r : Option Nat} {P : Program} {n : Nat} {D : List Deferred} {w0 : World} {F : List (Nat × Value)} {L : List Ent} {Q : Exit → Act → World → Prop} {ops : Array Oper}
variable {d : Tmp} {ty : TypeId} {pos : String} {af : Array Edge} {rest : List Oper}
inductive Parts (F : List (Nat × Value)) : List (Nat × Operand) → List (Nat × Value) → Prop
  | nil : Parts F [] []
  | cons {i : Nat} {x : Operand} {v : Value} {xs : List (Nat × Operand)} {vs : List (Nat × Value)} : ev F x = some v → Parts F xs vs → Parts F ((i, x) :: xs) ((i, v) :: vs)
theorem Parts.map {a : Act} (ha : Fr n D F a) {xs : List (Nat × Operand)} {vs : List (Nat × Value)} (h : Parts F xs vs) : xs.map (fun x => (x.1, a.eval x.2)) = vs := by
  induction h with
  | nil => rfl
  | cons hx _ ih => simp [ha.eval hx, ih]
inductive Fill (pl : Nat → Option (Nat × Nat)) : List Value → List (Nat × Value) → List Value → Prop
  | nil {l : List Value} : Fill pl l [] l
  | cons {i off k : Nat} {v : Value} {vs l l1 l2 : List Value} {r : List (Nat × Value)} : pl i = some (off, k) → v.cells = vs.toArray → vs.length = k → LPut l off vs l1 → Fill pl l1 r l2 → Fill pl l ((i, v) :: r) l2
theorem foldl_set : ∀ (vs : List Value) (off j : Nat) (cs : Array Value), off + j + vs.length ≤ cs.size →
    ((vs.zipIdx j).foldl (fun (cs : Array Value) x => cs.setIfInBounds (off + x.2) x.1) cs).toList = cs.toList.take (off + j) ++ vs ++ cs.toList.drop (off + j + vs.length)
  | [], off, j, cs, _ => by simp
  | v :: vs, off, j, cs, h => by
    simp only [List.zipIdx_cons, List.foldl_cons]
    have hl : off + j < cs.toList.length := by simp at h ⊢; omega
    rw [foldl_set vs off (j + 1) _ (by simp at h ⊢; omega)]
    rw [Array.toList_setIfInBounds]
    apply List.ext_getElem?
    intro q
    simp only [List.getElem?_append, List.getElem?_take, List.getElem?_drop, List.getElem?_set, List.length_append, List.length_take, List.length_set, List.length_cons]
    have e1 : min (off + (j + 1)) cs.toList.length = off + j + 1 := by omega
    have e2 : min (off + j) cs.toList.length = off + j := by omega
    rw [e1, e2]
    by_cases h1 : q < off + j
    · have : q < off + j + 1 := by omega
      simp [h1, show q < off + (j + 1) from by omega, show q < off + j + 1 + vs.length from by omega, show q < off + j + (vs.length + 1) from by omega, show ¬ off + j = q from by omega, this]
    · by_cases h2 : q = off + j
      · subst h2
        have hl' : off + j < cs.size := by simpa using hl
        simp [show off + j < off + (j + 1) from by omega, show off + j < off + j + 1 + vs.length from by omega, hl']
      · by_cases h3 : q < off + j + (vs.length + 1)
        · have h4 : q - (off + j) = (q - (off + j + 1)) + 1 := by omega
          simp [h1, show ¬ q < off + j + 1 from by omega, show q < off + j + 1 + vs.length from by omega, h3, h4]
        · have h5 : off + (j + 1) + vs.length = off + j + (vs.length + 1) := by omega
          simp [h3, h5, show off + j + 1 + vs.length = off + j + (vs.length + 1) from by omega, show ¬ off + j = off + j + (vs.length + 1) + (q - (off + j + (vs.length + 1))) from by omega]
theorem Fill.eq {pl : Nat → Option (Nat × Nat)} {l l' : List Value} {r : List (Nat × Value)} (h : Fill pl l r l') : Instr.fill pl l.toArray r = some l'.toArray := by
  induction h with
  | nil => rfl
  | @cons i off k v vs l l1 l2 r hp hv hk hput _ ih =>
    obtain ⟨h1, h2⟩ := hput.eq
    have hfold := foldl_set vs off 0 l.toArray (by simpa using h1)
    have hf2 : (Array.foldl (fun (cs : Array Value) x => cs.setIfInBounds (off + x.2) x.1) l.toArray v.cells.zipIdx) = l1.toArray := by
      rw [hv, ← Array.foldl_toList]
      apply Array.ext'
      have e1 : (vs.toArray.zipIdx).toList = vs.zipIdx := by simp
      rw [e1, hfold, h2]
      simp
    subst hk
    have hc : ¬ (v.cells.size ≠ vs.length ∨ off + v.cells.size > l.toArray.size) := by
      rw [hv]; simp; omega
    simp only [Instr.fill, hp]
    rw [if_neg (by simpa using hc)]
    rw [show (fun (cs : Array Value) (x : Value × Nat) => match x with | (c, j) => cs.setIfInBounds (off + j) c) = (fun (cs : Array Value) x => cs.setIfInBounds (off + x.2) x.1) from rfl, hf2]
    exact ih
class TPl (P : Program) (t : TypeId) (pl : outParam (List (Nat × Nat))) : Prop where
  h : ∃ fs : Array Field, P.underlying t = some (.struct fs) ∧ ∀ w, (fs.mapM (m := Sem) fun f => do pure (f.offset, ← sizeOf f.type)).run P w = .ok pl.toArray w
theorem yD3 {t : TypeId} {pl : List (Nat × Nat)} {xs : List (Nat × Operand)} {vs : List (Nat × Value)} {z : Value} {zl out : List Value} (hP : TPl P t pl) (hZ : TZ P t z zl) (hxs : Parts F xs vs)
    (hf : Fill (fun i : Nat => pl[i]?) zl vs out) (hd : Nat.ble (d + 1) n = true) (h : St n D w0 ((d, .agg out.toArray) :: F) L (WL r P ops Q rest)) :
    St n D w0 F L (WL r P ops Q (⟨some d, .build t xs.toArray, ty, pos, af, none⟩ :: rest)) :=
  zf3 rfl hd (fun a w ha _ => by
    obtain ⟨fs, hu, hm⟩ := TPl.h (P := P) (t := t) (pl := pl)
    have hxs' := hxs.map ha
    have e1 : xs.toArray.map (fun x => match x with | (i, x) => (i, a.eval x)) = vs.toArray := by rw [← hxs']; simp
    have hfe := hf.eq
    have e2 : (fun i : Nat => pl.toArray[i]?) = (fun i : Nat => pl[i]?) := by funext i; simp
    simp only [execOp, e1, Instr.build, Sem.run_bind, TZ.h (P := P) (t := t), Result.andThen_ok, zb2 hu, hm, TZ.hc (P := P) (t := t)]
    rw [show (fun x : Nat => pl.toArray[x]?) = (fun i : Nat => pl[i]?) from e2]
    rw [hfe]
    rfl) h
def Flat (P : Program) : Nat → List Field → List TypeDesc → Prop
  | _, [], [] => True
  | k, f :: fs, d :: ds => (f.name == "_") = false ∧ f.offset = k ∧ (∀ w, (isAgg f.type).run P w = .ok false w) ∧ P.underlying f.type = some d ∧ Flat P (k + 1) fs ds
  | _, _, _ => False
class TQ (P : Program) (t : TypeId) (ds : outParam (List TypeDesc)) : Prop where
  h : ∃ fs : Array Field, P.underlying t = some (.struct fs) ∧ P.stoodInHeld t = false ∧ P.eqGuardType P.depth t = false ∧ Flat P 0 fs.toList ds
inductive EqP : List TypeDesc → List Value → List Value → Prop → Prop
  | nil : EqP [] [] [] True
  | int1 {k k' : IntKind} {a c : Int} : EqP [.int k'] [.int k a] [.int k c] (a = c)
  | int {k k' : IntKind} {a c : Int} {ds : List TypeDesc} {xs ys : List Value} {p : Prop} : EqP ds xs ys p → EqP (.int k' :: ds) (.int k a :: xs) (.int k c :: ys) (a = c ∧ p)
  | bool1 {a c : Bool} : EqP [.bool] [.bool a] [.bool c] (a = c)
  | bool {a c : Bool} {ds : List TypeDesc} {xs ys : List Value} {p : Prop} : EqP ds xs ys p → EqP (.bool :: ds) (.bool a :: xs) (.bool c :: ys) (a = c ∧ p)
theorem EqP.one {d : TypeDesc} {ds : List TypeDesc} {u v : Value} {xs ys : List Value} {p : Prop} (h : EqP (d :: ds) (u :: xs) (v :: ys) p) :
    ∃ (a : Bool) (q p' : Prop), (a = true ↔ q) ∧ (p ↔ q ∧ p') ∧ EqP ds xs ys p' ∧ ∀ (P : Program) (fuel : Nat) (t : TypeId) (w : World), P.underlying t = some d → (Op.equalIn (fuel + 1) t u v).run P w = .ok a w := by
  cases h with
  | @int1 k k' a c => exact ⟨a == c, a = c, True, by simp, by simp, .nil, fun P fuel t w hu => run_equalIn_int w fuel t k k' a c hu⟩
  | @int k k' a c ds xs ys p' h' => exact ⟨a == c, a = c, p', by simp, Iff.rfl, h', fun P fuel t w hu => run_equalIn_int w fuel t k k' a c hu⟩
  | @bool1 a c => exact ⟨a == c, a = c, True, by simp, by simp, .nil, fun P fuel t w hu => run_equalIn_bool w fuel t a c hu⟩
  | @bool a c ds xs ys p' h' => exact ⟨a == c, a = c, p', by simp, Iff.rfl, h', fun P fuel t w hu => run_equalIn_bool w fuel t a c hu⟩
theorem zI6 (fuel : Nat) : ∀ (fs : List Field) (ds : List TypeDesc) (i : Nat) (XS YS : List Value) (xs ys : List Value) (p : Prop), Flat P i fs ds → EqP ds xs ys p → (∀ j v, xs[j]? = some v → XS[i + j]? = some v) → (∀ j v, ys[j]? = some v → YS[i + j]? = some v) →
    ∀ w, (Op.eqFields (fuel + 1) XS.toArray YS.toArray fs).run P w = .ok (B p) w
  | [], [], _, _, _, xs, ys, p, _, he, _, _, w => by cases he; simp [Op.eqFields, zj0 trivial]
  | [], _ :: _, _, _, _, _, _, _, hf, _, _, _, _ => hf.elim
  | _ :: _, [], _, _, _, _, _, _, hf, _, _, _, _ => hf.elim
  | f :: fs, d :: ds, i, XS, YS, xs, ys, p, hf, he, hx, hy, w => by
    obtain ⟨hn, ho, ha, hu, hr⟩ := hf
    have hn' : f.name ≠ "_" := by simpa using hn
    obtain ⟨u, xs', rfl⟩ : ∃ u xs', xs = u :: xs' := by cases he <;> exact ⟨_, _, rfl⟩
    obtain ⟨v, ys', rfl⟩ : ∃ v ys', ys = v :: ys' := by cases he <;> exact ⟨_, _, rfl⟩
    obtain ⟨a, q, p', haq, hpq, he', hrun⟩ := he.one
    have hp1 : ∀ w, (part f.type XS.toArray f.offset).run P w = .ok u w := fun w => by
      have := hx 0 u rfl
      simp [part, ha, ho, show XS[i]? = some u from this]
    have hp2 : ∀ w, (part f.type YS.toArray f.offset).run P w = .ok v w := fun w => by
      have := hy 0 v rfl
      simp [part, ha, ho, show YS[i]? = some v from this]
    have ih := zI6 fuel fs ds (i + 1) XS YS xs' ys' p' hr he' (fun j v hj => by have := hx (j + 1) v (by simpa using hj); rwa [show i + (j + 1) = i + 1 + j from by omega] at this)
      (fun j v hj => by have := hy (j + 1) v (by simpa using hj); rwa [show i + (j + 1) = i + 1 + j from by omega] at this) w
    simp only [Op.eqFields, hn', if_true, ne_eq, not_false_eq_true, Sem.run_bind, hp1, hp2, hrun P fuel f.type _ hu, Result.andThen_ok, Sem.run_ite, ih]
    cases h : a with
    | true => simp [yA3 (show p ↔ p' from ⟨fun hp => (hpq.1 hp).2, fun hp => hpq.2 ⟨haq.1 h, hp⟩⟩)]
    | false => simp [zc2 (show ¬ p from fun hp => by rw [haq.2 (hpq.1 hp).1] at h; cases h)]
theorem zo8 {t : TypeId} {ds : List TypeDesc} {xs ys : List Value} {p : Prop} (hQ : TQ P t ds) (he : EqP ds xs ys p) (w : World) : (Op.equal t (.agg xs.toArray) (.agg ys.toArray)).run P w = .ok (B p) w := by
  obtain ⟨fs, hu, hs, hg, hf⟩ := hQ.h
  have hfo : P.fieldsOf t = fs := by simp [Program.fieldsOf, hu]
  show (Op.equalIn (9998 + 1 + 1) t _ _).run P w = _
  rw [run_equalIn_struct w (9998 + 1) t _ _ (by rw [hfo]; exact hu) hs, hfo]
  exact zI6 9998 fs.toList ds 0 xs ys xs ys p hf he (fun j v h => by simpa using h) (fun j v h => by simpa using h) w
theorem yD4 {x y : Operand} {t u : TypeId} {ds : List TypeDesc} {xs ys : List Value} {p : Prop} (hQ : TQ P t ds) (hx : ev F x = some (.agg xs.toArray)) (hy : ev F y = some (.agg ys.toArray)) (he : EqP ds xs ys p) (hd : Nat.ble (d + 1) n = true)
    (h : St n D w0 ((d, .bool (B p)) :: F) L (WL r P ops Q rest)) : St n D w0 F L (WL r P ops Q (⟨some d, .binOp .eql t x y u, ty, pos, af, none⟩ :: rest)) :=
  zf3 rfl hd (fun a w ha _ => by
    obtain ⟨fs, hu, hs, hg, hf⟩ := hQ.h
    simp only [execOp, ha.eval hx, ha.eval hy, Sem.run_bind, run_eqGuard_agg w .eql t _ _ _ _ hg, Result.andThen_ok]
    rw [run_eql_struct]
    show (((Op.equal t (.agg xs.toArray) (.agg ys.toArray)).run P w).andThen _).andThen _ = _
    rw [zo8 hQ he]; rfl) h
theorem yD9 {x y : Operand} {t u : TypeId} {ds : List TypeDesc} {xs ys : List Value} {p : Prop} (hQ : TQ P t ds) (hx : ev F x = some (.agg xs.toArray)) (hy : ev F y = some (.agg ys.toArray)) (he : EqP ds xs ys p) (hd : Nat.ble (d + 1) n = true)
    (h : St n D w0 ((d, .bool (B (¬ p))) :: F) L (WL r P ops Q rest)) : St n D w0 F L (WL r P ops Q (⟨some d, .binOp .neq t x y u, ty, pos, af, none⟩ :: rest)) :=
  zf3 rfl hd (fun a w ha _ => by
    obtain ⟨fs, hu, hs, hg, hf⟩ := hQ.h
    simp only [execOp, ha.eval hx, ha.eval hy, Sem.run_bind, run_eqGuard_agg w .neq t _ _ _ _ hg, Result.andThen_ok]
    rw [run_neq_struct]
    show (((Op.equal t (.agg xs.toArray) (.agg ys.toArray)).run P w).andThen _).andThen _ = _
    rw [zo8 hQ he]
    have e : (!B p) = B (¬ p) := by
      by_cases hp : p
      · rw [zj0 hp, zc2 (fun h => h hp)]; rfl
      · rw [zc2 hp, zj0 hp]; rfl
    rw [← e]; rfl) h
theorem o9 {t e : TypeId} {x : Operand} {a0 : Option Addr} {len cap : Nat} (hU : TU P t (.slice e)) (hx : ev F x = some (.slice a0 len cap)) (hd : Nat.ble (d + 1) n = true)
    (h : St n D w0 ((d, .int .i64 len) :: F) L (WL r P ops Q rest)) : St n D w0 F L (WL r P ops Q (⟨some d, .call ⟨.builtin .len, #[x], #[t]⟩, ty, pos, af, none⟩ :: rest)) :=
  zf3 rfl hd (fun a w ha _ => by simp [execOp, resolve, invoke, builtin, Builtin.len_, ha.eval hx, zb2 (TU.h (P := P) (t := t)), goInt]) h
theorem zn6 {x y : Operand} {k : IntKind} {m l : Int} {ats : Array TypeId} (hx : ev F x = some (.int k m)) (hy : ev F y = some (.int k l)) (hd : Nat.ble (d + 1) n = true)
    (h : St n D w0 ((d, .int k (if l < m then l else m)) :: F) L (WL r P ops Q rest)) : St n D w0 F L (WL r P ops Q (⟨some d, .call ⟨.builtin .min, #[x, y], ats⟩, ty, pos, af, none⟩ :: rest)) :=
  zf3 rfl hd (fun a w ha _ => by simp [execOp, resolve, invoke, builtin, Builtin.min_, Builtin.min2, ha.eval hx, ha.eval hy]) h
theorem zp4 {x y : Operand} {k : IntKind} {m l : Int} {ats : Array TypeId} (hx : ev F x = some (.int k m)) (hy : ev F y = some (.int k l)) (hd : Nat.ble (d + 1) n = true)
    (h : St n D w0 ((d, .int k (if m < l then l else m)) :: F) L (WL r P ops Q rest)) : St n D w0 F L (WL r P ops Q (⟨some d, .call ⟨.builtin .max, #[x, y], ats⟩, ty, pos, af, none⟩ :: rest)) :=
  zf3 rfl hd (fun a w ha _ => by simp [execOp, resolve, invoke, builtin, Builtin.max_, Builtin.max2, ha.eval hx, ha.eval hy]) h
theorem yJ0 {fn : Fn} {xs ys : List Operand} {vs us : List Value} (hxs : Evs F xs vs) (hys : Evs F ys us) (hd : Nat.ble (d + 1) n = true)
    (h : St n D w0 ((d, .func fn vs.toArray us.toArray) :: F) L (WL r P ops Q rest)) : St n D w0 F L (WL r P ops Q (⟨some d, .makeFunc fn xs.toArray ys.toArray, ty, pos, af, none⟩ :: rest)) :=
  zf3 rfl hd (fun a w ha _ => by
    have e1 : xs.toArray.map a.eval = vs.toArray := by rw [← hxs.map ha]; simp
    have e2 : ys.toArray.map a.eval = us.toArray := by rw [← hys.map ha]; simp
    simp [execOp, Instr.makeFunc, hxs.map ha, hys.map ha]) h
def zR7 (tmps : Array Value) : ResultVar → Sem Value
  | .tmp t => pure (tmps.getD t undef)
  | .cell a t => do loadVar t (← asAddr (tmps.getD a undef))
def zN2 (P : Program) (n : Nat) (D : List Deferred) (w0 : World) (F : List (Nat × Value)) (L : List Ent) (r : ResultVar) (v : Value) : Prop :=
  ∀ a w, Fr n D F a → Rep w0 w L → (zR7 a.tmps r).run P w = .ok v w
theorem zZ1 {a : Act} (ha : Fr n D F a) {t : Nat} {v : Value} (h : lk F t = some v) : a.tmps.getD t undef = v := by
  simp [Array.getD_eq_getD_getElem?, ha.get t v h]
theorem yJ7 {t : Nat} {v : Value} (h : lk F t = some v) : zN2 P n D w0 F L (.tmp t) v := fun a w ha _ => by
  simp [zR7, zZ1 ha h]
theorem yF6 {t : Nat} {u e : TypeId} {b : Nat} {l : List Value} {fz : Nat × Nat} {v : Value} (hA : TA P u false) (h : lk F t = some (.pointer (some ⟨b, 0, none⟩))) (hk : Kn w0 L b (.cells l.toArray e fz)) (hv : Nth l 0 v) :
    zN2 P n D w0 F L (.cell t u) v := fun a w ha hw => by
  have hc : w.cell? ⟨b, 0, none⟩ = some v := by simp [World.cell?, hk w hw, hv.eq]
  simp [zR7, zZ1 ha h, asAddr, loadVar, TA.h (P := P) (t := u), hc]
theorem yy8 {t : Nat} {u e : TypeId} {b k : Nat} {l : List Value} {fz : Nat × Nat} (hA : TA P u true) (hS : TS P u k) (h : lk F t = some (.pointer (some ⟨b, 0, none⟩))) (hk : Kn w0 L b (.cells l.toArray e fz)) (hl : l.length = k) :
    zN2 P n D w0 F L (.cell t u) (.agg l.toArray) := fun a w ha hw => by
  subst hl
  have hc := run_loadCells_list (P := P) w ⟨b, 0, none⟩ l (fun j v hj => by rw [zh8]; simp [World.cell?, hk w hw, hj])
  simp [zR7, zZ1 ha h, asAddr, loadVar, TA.h (P := P) (t := u), TS.h (P := P) (t := u), hc]
variable {fn : Func} {R : Ending → World → Prop}
theorem zz4 (tmps : Array Value) : results fn tmps = (do let vs ← fn.results.mapM (zR7 tmps); pure (if h : vs.size = 1 then vs[0] else .tuple vs)) := rfl
theorem p8 {v : Value} (hres : ∀ a w, Fr n [] F a → Rep w0 w L → (results fn a.tmps).run P w = .ok v w) (h : ∀ w, Rep w0 w L → R (.returned v) w) : St n [] w0 F L (bodyPost P fn R .ret) :=
  fun a w ha hw => ⟨ha.defers, v, hres a w ha hw, h w hw⟩
theorem ya6 {v : Value} (hres : ∀ a w, Fr n [] F a → Rep w0 w L → (results fn a.tmps).run P w = .ok v w) (h : ∀ w, Rep w0 w L → R (.returned v) w) : St n [] w0 F L (bodyPost P fn R .normal) :=
  fun a w ha hw => ⟨ha.defers, v, hres a w ha hw, h w hw⟩
theorem yk7 (hr : fn.results = #[]) : ∀ a w, Fr n D F a → Rep w0 w L → (results fn a.tmps).run P w = .ok (.tuple #[]) w := fun a w _ _ => by
  simp [zz4, hr]
theorem zb0 {r1 : ResultVar} {v1 : Value} (hr : fn.results = #[r1]) (h1 : zN2 P n D w0 F L r1 v1) : ∀ a w, Fr n D F a → Rep w0 w L → (results fn a.tmps).run P w = .ok v1 w := fun a w ha hw => by
  simp [zz4, hr, h1 a w ha hw]
theorem zf9 {r1 r2 : ResultVar} {v1 v2 : Value} (hr : fn.results = #[r1, r2]) (h1 : zN2 P n D w0 F L r1 v1) (h2 : zN2 P n D w0 F L r2 v2) :
    ∀ a w, Fr n D F a → Rep w0 w L → (results fn a.tmps).run P w = .ok (.tuple #[v1, v2]) w := fun a w ha hw => by
  simp [zz4, hr, h1 a w ha hw, h2 a w ha hw]
theorem yy5 {r1 r2 r3 r4 : ResultVar} {v1 v2 v3 v4 : Value} (hr : fn.results = #[r1, r2, r3, r4]) (h1 : zN2 P n D w0 F L r1 v1) (h2 : zN2 P n D w0 F L r2 v2) (h3 : zN2 P n D w0 F L r3 v3) (h4 : zN2 P n D w0 F L r4 v4) :
    ∀ a w, Fr n D F a → Rep w0 w L → (results fn a.tmps).run P w = .ok (.tuple #[v1, v2, v3, v4]) w := fun a w ha hw => by
  simp [zz4, hr, h1 a w ha hw, h2 a w ha hw, h3 a w ha hw, h4 a w ha hw]
end
end Go.Sx
namespace Go.Sx
open Go Go.RowKit
section
variable {r : Option Nat} {P : Program} {n : Nat} {D : List Deferred} {w0 : World} {F : List (Nat × Value)} {L : List Ent} {Q : Exit → Act → World → Prop} {ops : Array Oper}
variable {d : Tmp} {ty : TypeId} {pos : String} {af : Array Edge} {rest : List Oper}
structure zG5 (Z : LoopState → Option Code → Obj) (tmps : Array Value) (ps : Array Tmp) (assign body : Code) : Prop where
  h : ∃ fid bd, ∀ s p, Z s p = .loop ⟨s, p, fid, tmps, ps, assign, body, bd⟩
def mark (bd : Nat) : Deferred := { target := .collected bd, args := #[] }
def RG (P : Program) (Q : Exit → Act → World → Prop) (a : Act) (l : Nat) : Ending → World → Prop := rangePost (FR none) 0 P l Q a
theorem yc6 {g : Operand} {ps : Array Tmp} {assign body : Code} {f : FuncId} {fn : Func} {cb : Code} {n2 : Nat} {caps : List Value} {F2 : Nat → List (Nat × Value)}
    (hg : ev F g = some (.func (.func f) #[] caps.toArray)) (hT : TC P f fn) (hb : fn.body = some cb) (hn : fn.ntmps = n2) (hl : Nat.ble (caps.length + 1) n2 = true) (hF : ∀ l, FArgs 0 (.func (.yield l) #[] #[] :: caps) (F2 l))
    (h : ∀ (l bd : Nat) (Z : LoopState → Option Code → Obj) (a : Act), Fr n (mark bd :: D) F a → zG5 Z a.tmps ps assign body →
      St n2 [] w0 (F2 l) (⟨l, Z .ready none, true⟩ :: ⟨bd, .deferred (some []), true⟩ :: L) (WC none P cb (bodyPost P fn (RG P Q a l)))) :
    St n D w0 F L (WC none P (.rangeFunc g ps assign body) Q) := by
  intro a w ha hw
  refine wpIn_rangeFunc fun fid _ => ?_
  have hev := ha.eval hg
  obtain ⟨c0, hb0⟩ := TC.hb (P := P) (f := f)
  have hn' : ¬ fn.name = "runtime.NumGoroutine" := by simpa using TC.hn (P := P) (f := f)
  obtain ⟨W, hW⟩ : ∃ W, W = (w.alloc (.deferred (some []))).alloc (.loop { state := .ready, pending := none, fn := fid, tmps := a.tmps, params := ps, assign, body, defers := w.heap.size }) := ⟨_, rfl⟩
  have henter := run_enterLoop_outer (P := P) (w := w) fid a.tmps ps assign body
  rw [← hW] at henter
  refine ⟨w.heap.size + 1, [mark w.heap.size], W, { target := .fn (.func f) caps.toArray, args := #[.func (.yield (w.heap.size + 1)) #[] #[]] }, W, f, (.func (.yield (w.heap.size + 1)) #[] #[] :: caps).toArray, W, henter, ?_, fun _ _ => trivial, ?_, (fun h => (by cases h)), ?_⟩
  · simp only [resolve, hev, Deferred.ofValue]
    simp [Act.eval]
  · simp [invoke, callFunc, TC.hf (P := P) (f := f), hb0, hn']
  · refine callsIn_of_wp (TC.hf (P := P) (f := f)) hb trivial ?_
    have hr1 := (hw.alloc (.deferred (some []))).alloc (.loop { state := .ready, pending := none, fn := fid, tmps := a.tmps, params := ps, assign, body, defers := w.heap.size })
    rw [World.size_alloc, ← hW] at hr1
    refine h (w.heap.size + 1) w.heap.size (fun s p => .loop ⟨s, p, fid, a.tmps, ps, assign, body, w.heap.size⟩) { a with defers := [mark w.heap.size] ++ a.defers } ⟨ha.size, by simp [ha.defers], ha.get⟩ ⟨fid, w.heap.size, fun _ _ => rfl⟩ _ _ ⟨?_, rfl, fun t v ht => ?_⟩ hr1
    · have := Nat.le_of_ble_eq_true hl
      simp [hn]; omega
    · obtain ⟨_, h2⟩ := (hF _).lk t v ht
      simp only [Nat.sub_zero] at h2
      have hlt := (List.getElem?_eq_some_iff.1 h2).1
      rw [Array.getElem?_append_left (by simpa using hlt)]
      simpa using h2
theorem zy7 {g : Operand} {ps : Array Tmp} {assign body : Code} {f : FuncId} {fn : Func} {cb : Code} {n2 : Nat} {c1 : Value} 
    (hg : ev F g = some (.func (.func f) #[] #[c1])) (hT : TC P f fn) (hb : fn.body = some cb) (hn : fn.ntmps = n2) (hl : Nat.ble 2 n2 = true)
    (h : ∀ (l bd : Nat) (Z : LoopState → Option Code → Obj) (a : Act), Fr n (mark bd :: D) F a → zG5 Z a.tmps ps assign body →
      St n2 [] w0 [(0, .func (.yield l) #[] #[]), (1, c1)] (⟨l, Z .ready none, true⟩ :: ⟨bd, .deferred (some []), true⟩ :: L) (WC none P cb (bodyPost P fn (RG P Q a l)))) :
    St n D w0 F L (WC none P (.rangeFunc g ps assign body) Q) := yc6 (caps := [c1]) (F2 := fun l => [(0, .func (.yield l) #[] #[]), (1, c1)]) hg hT hb hn hl (fun _ => .cons (.cons .nil)) h
theorem zu6 {n2 : Nat} {D2 : List Deferred} {F2 : List (Nat × Value)} {L2 L3 : List Ent} {a : Act} {l : Nat} {tmps : Array Value} {ps : Array Tmp} {assign body : Code} {Z : LoopState → Option Code → Obj} {s : LoopState} (ha : Fr n D F a) (hZ : zG5 Z tmps ps assign body)
    (hat : At L2 l (Z s none)) (hs : s ≠ .busy) (hu : Upd L2 l (Z s none) (Z .exhausted none) L3) (h : St n D w0 F L3 (Q .normal)) {v : Value} :
    St n2 D2 w0 F2 L2 (fun _ w => RG P Q a l (.returned v) w) := by
  obtain ⟨fid, bd, hZ⟩ := hZ
  rw [hZ, hZ] at hu
  rw [hZ] at hat
  intro a2 w ha2 hw
  exact ⟨none, w.putObj l _, run_endLoop (hw.at hat) hs, h a _ ha (hw.upd hu)⟩
theorem zq3 {n2 : Nat} {D2 : List Deferred} {F2 : List (Nat × Value)} {L2 L3 : List Ent} {a : Act} {l : Nat} {tmps : Array Value} {ps : Array Tmp} {assign body : Code} {Z : LoopState → Option Code → Obj} {s : LoopState} {c : Code} (ha : Fr n D F a) (hZ : zG5 Z tmps ps assign body)
    (hat : At L2 l (Z s (some c))) (hs : s ≠ .busy) (hu : Upd L2 l (Z s (some c)) (Z .exhausted (some c)) L3) (h : St n D w0 F L3 (WC none P c Q)) {v : Value} :
    St n2 D2 w0 F2 L2 (fun _ w => RG P Q a l (.returned v) w) := by
  obtain ⟨fid, bd, hZ⟩ := hZ
  rw [hZ, hZ] at hu
  rw [hZ] at hat
  intro a2 w ha2 hw
  exact ⟨some c, w.putObj l _, run_endLoop (hw.at hat) hs, h a _ ha (hw.upd hu)⟩
theorem zC3 {fn : Func} {R : Ending → World → Prop} (hr : fn.results = #[]) (h : St n [] w0 F L (fun _ w => R (.returned (.tuple #[])) w)) : St n [] w0 F L (bodyPost P fn R .ret) :=
  fun a w ha hw => ⟨ha.defers, _, yk7 hr a w ha hw, h a w ha hw⟩
theorem zv3 {fn : Func} {R : Ending → World → Prop} (hr : fn.results = #[]) (h : St n [] w0 F L (fun _ w => R (.returned (.tuple #[])) w)) : St n [] w0 F L (bodyPost P fn R .normal) :=
  fun a w ha hw => ⟨ha.defers, _, yk7 hr a w ha hw, h a w ha hw⟩
def YR (r : Option Nat) (P : Program) (ops : Array Oper) (Q : Exit → Act → World → Prop) (rest : List Oper) (a : Act) (d : Tmp) : Ending → World → Prop
  | .returned v, w => WL r P ops Q rest (a.put (some d) v) w
  | .panicked chain, w => Q (.panic chain) a w
  | .outgrown, _ => LetsOut Q
def zc1 (P : Program) (l : Nat) (body : Code) (R : Ending → World → Prop) : Act → World → Prop :=
  fun a₁ w₁ => ∃ w₂, (Instr.beginRound l).run P w₁ = .ok () w₂ ∧ body.wpIn (FR (some l)) 0 P (roundPost P l R) a₁ w₂
def yI9 : Exit → Act → World → Prop := fun _ _ _ => False
inductive RPar : List Nat → List Value → List (Nat × Value) → List (Nat × Value) → Prop
  | nil {F : List (Nat × Value)} : RPar [] [] F F
  | cons {p : Nat} {v : Value} {ps : List Nat} {vs : List Value} {F G : List (Nat × Value)} : RPar ps vs ((p, v) :: F) G → RPar (p :: ps) (v :: vs) F G
theorem RPar.fr {n : Nat} {ps : List Nat} {vs : List Value} {F G : List (Nat × Value)} (h : RPar ps vs F G) : ∀ (tmps : Array Value), (∀ p ∈ ps, p < n) → Fr n [] F ⟨tmps, []⟩ →
    Fr n [] G ⟨((ps.zip vs).foldl (fun tmps (x : Nat × Value) => tmps.setIfInBounds x.1 x.2) tmps), []⟩ := by
  induction h with
  | nil => intro tmps _ hf; simpa using hf
  | @cons p v ps vs F G _ ih =>
    intro tmps hp hf
    have := ih (tmps.setIfInBounds p v) (fun q hq => hp q (List.mem_cons_of_mem _ hq)) (hf.put (hp p List.mem_cons_self) v)
    simpa using this
theorem yA2 (ps : List Nat) (vs : List Value) (tmps : Array Value) : (ps.toArray.zip vs.toArray).foldl (fun tmps (x : Nat × Value) => tmps.setIfInBounds x.1 x.2) tmps = (ps.zip vs).foldl (fun tmps (x : Nat × Value) => tmps.setIfInBounds x.1 x.2) tmps := by
  rw [← Array.foldl_toList]; simp
theorem zv2 {n1 : Nat} {F1 G : List (Nat × Value)} {D1 : List Deferred} {x : Operand} {l : Nat} {ps : List Nat} {assign body : Code} {Z : LoopState → Option Code → Obj} {a1 : Act} {xs : List Operand} {vs : List Value} {ats : Array TypeId}
    (hx : ev F x = some (.func (.yield l) #[] #[])) (hxs : Evs F xs vs) (hZ : zG5 Z a1.tmps ps.toArray assign body) (ha1 : Fr n1 D1 F1 a1) (hat : At L l (Z .ready none)) (hlen : vs.length = ps.length)
    (hps : ps.all (fun p => Nat.ble (p + 1) n1) = true) (hG : RPar ps vs F1 G)
    (h : ∀ a, Fr n D F a → St n1 [] w0 G L (WC (some l) P assign (Exit.then (zc1 P l body (YR none P ops Q rest a d)) yI9))) :
    St n D w0 F L (WL none P ops Q (⟨some d, .call ⟨.value x, xs.toArray, ats⟩, ty, pos, af, none⟩ :: rest)) :=
  zi0 rfl rfl fun a w ha hw => by
    obtain ⟨fid, bd, hZ⟩ := hZ
    rw [hZ] at hat
    have hrun : (execOp a.eval ⟨some d, .call ⟨.value x, xs.toArray, ats⟩, ty, pos, af, none⟩).run P w =
        .ok (.round l fid ((ps.toArray.zip vs.toArray).foldl (fun tmps (x : Nat × Value) => tmps.setIfInBounds x.1 x.2) a1.tmps) assign body) w := by
      have hev := ha.eval hx
      have hy := run_yield (P := P) (args := vs.toArray) (hw.at hat) (by simpa using hlen)
      have hxs' := hxs.map ha
      simp only [execOp, resolve, Deferred.ofValue, hev, invoke, Sem.run_bind, Sem.run_pure, Result.andThen_ok]
      have e1 : (#[] : Array Value) ++ xs.toArray.map a.eval = vs.toArray := by rw [← hxs']; simp
      rw [e1, hy]
    rw [hrun]
    refine ⟨(fun h => (by cases h)), ?_⟩
    have hroundin : RoundIn (FR none) 0 P l fid ((ps.toArray.zip vs.toArray).foldl (fun tmps (x : Nat × Value) => tmps.setIfInBounds x.1 x.2) a1.tmps) assign body w (YR none P ops Q rest a d) := by
      refine roundIn_of_wpIn trivial ?_
      rw [yA2]
      refine h a ha _ w (hG.fr a1.tmps ?_ ⟨ha1.size, rfl, ha1.get⟩) hw
      intro p hp
      have := List.all_eq_true.1 hps p hp
      exact Nat.le_of_ble_eq_true this
    refine hroundin.mono ?_
    intro e w' he
    cases e <;> exact he
theorem zu5 {l : Nat} {body : Code} {R : Ending → World → Prop} {tmps : Array Value} {ps : Array Tmp} {assign body' : Code} {Z : LoopState → Option Code → Obj} {L' : List Ent} (hZ : zG5 Z tmps ps assign body')
    (hat : At L l (Z .ready none)) (hu : Upd L l (Z .ready none) (Z .busy none) L')
    (h : St n D w0 F L' (WC (some l) P body (roundPost P l R))) : St n D w0 F L (zc1 P l body R) := by
  obtain ⟨fid, bd, hZ⟩ := hZ
  rw [hZ, hZ] at hu
  rw [hZ] at hat
  exact fun a w ha hw => ⟨_, run_beginRound (hw.at hat) rfl, h a _ ha (hw.upd hu)⟩
section
variable {n2 : Nat} {D2 : List Deferred} {F2 : List (Nat × Value)} {l : Nat} {tmps : Array Value} {ps : Array Tmp} {assign body : Code} {Z : LoopState → Option Code → Obj} {L' : List Ent} {a2 : Act}
theorem zu7 (ha2 : Fr n2 D2 F2 a2) (hd : Nat.ble (d + 1) n2 = true) (hZ : zG5 Z tmps ps assign body) (hat : At L l (Z .busy none)) (hu : Upd L l (Z .busy none) (Z .ready none) L')
    (h : St n2 D2 w0 ((d, .bool true) :: F2) L' (WL none P ops Q rest)) : St n D w0 F L (roundPost P l (YR none P ops Q rest a2 d) .normal) := by
  obtain ⟨fid, bd, hZ⟩ := hZ
  rw [hZ, hZ] at hu
  rw [hZ] at hat
  exact fun _ w _ hw => ⟨_, _, run_endRound none (hw.at hat), h _ _ (ha2.put (Nat.le_of_ble_eq_true hd) _) (hw.upd hu)⟩
theorem zj7 (ha2 : Fr n2 D2 F2 a2) (hd : Nat.ble (d + 1) n2 = true) (hZ : zG5 Z tmps ps assign body) (hat : At L l (Z .busy none)) (hu : Upd L l (Z .busy none) (Z .done (some .ret)) L')
    (h : St n2 D2 w0 ((d, .bool false) :: F2) L' (WL none P ops Q rest)) : St n D w0 F L (roundPost P l (YR none P ops Q rest a2 d) .ret) := by
  obtain ⟨fid, bd, hZ⟩ := hZ
  rw [hZ, hZ] at hu
  rw [hZ] at hat
  exact fun _ w _ hw => ⟨_, _, run_endRound (some .ret) (hw.at hat), h _ _ (ha2.put (Nat.le_of_ble_eq_true hd) _) (hw.upd hu)⟩
theorem zi3 {id : Nat} (ha2 : Fr n2 D2 F2 a2) (hd : Nat.ble (d + 1) n2 = true) (hZ : zG5 Z tmps ps assign body) (hat : At L l (Z .busy none)) (hu : Upd L l (Z .busy none) (Z .done (some (.exit id))) L')
    (h : St n2 D2 w0 ((d, .bool false) :: F2) L' (WL none P ops Q rest)) : St n D w0 F L (roundPost P l (YR none P ops Q rest a2 d) (.exit id)) := by
  obtain ⟨fid, bd, hZ⟩ := hZ
  rw [hZ, hZ] at hu
  rw [hZ] at hat
  exact fun _ w _ hw => ⟨_, _, run_endRound (some (.exit id)) (hw.at hat), h _ _ (ha2.put (Nat.le_of_ble_eq_true hd) _) (hw.upd hu)⟩
end
def BM (P : Program) (fn : Func) (R : Ending → World → Prop) : Exit → Act → World → Prop := bodyPostM (FR none) 0 P fn R
theorem zP9 {f : FuncId} {fn : Func} {c : Code} {l : List Value} {w : World} {R : Ending → World → Prop} (hf : P.funcs[f]? = some fn) (hb : fn.body = some c) (hn : fn.ntmps = n) (hl : Nat.ble l.length n = true)
    (hF : FArgs 0 l F) (hw : Rep w w L) (h : St n [] w F L (WC none P c (BM P fn R))) : Calls P f l.toArray w R := by
  refine zB0 (callsIn_of_wp_marks hf hb trivial (h _ _ ⟨?_, rfl, fun t v ht => ?_⟩ hw))
  · have := Nat.le_of_ble_eq_true hl
    simp [hn]; omega
  · obtain ⟨_, h2⟩ := hF.lk t v ht
    simp only [Nat.sub_zero] at h2
    have hlt := (List.getElem?_eq_some_iff.1 h2).1
    rw [Array.getElem?_append_left (by simpa using hlt)]
    simpa using h2
section
variable {v0 v1 v2 v3 v4 : Value} {f : FuncId} {fn : Func} {c : Code} {w : World} {R : Ending → World → Prop} (hf : P.funcs[f]? = some fn) (hb : fn.body = some c) (hn : fn.ntmps = n)
include hf hb hn
theorem yq3 (hl : Nat.ble 1 n = true) (hw : Rep w w L) (h : St n [] w [(0, v0)] L (WC none P c (BM P fn R))) : Calls P f #[v0] w R := zP9 (l := [v0]) hf hb hn hl (.cons .nil) hw h
theorem zw8 (hl : Nat.ble 3 n = true) (hw : Rep w w L) (h : St n [] w [(0, v0), (1, v1), (2, v2)] L (WC none P c (BM P fn R))) : Calls P f #[v0, v1, v2] w R := zP9 (l := [v0, v1, v2]) hf hb hn hl (.cons (.cons (.cons .nil))) hw h
theorem zV6 (hl : Nat.ble 4 n = true) (hw : Rep w w L) (h : St n [] w [(0, v0), (1, v1), (2, v2), (3, v3)] L (WC none P c (BM P fn R))) : Calls P f #[v0, v1, v2, v3] w R := zP9 (l := [v0, v1, v2, v3]) hf hb hn hl (.cons (.cons (.cons (.cons .nil)))) hw h
end
variable {fn : Func} {R : Ending → World → Prop}
theorem zU0 {v : Value} (hres : ∀ a w, Fr n [] F a → Rep w0 w L → (results fn a.tmps).run P w = .ok v w) (h : ∀ w, Rep w0 w L → R (.returned v) w) : St n [] w0 F L (BM P fn R .ret) :=
  fun a w ha hw => by
    show LeavesInM (FR none) 0 P fn a.tmps R a.defers .returning w
    rw [ha.defers]
    exact ⟨v, hres a w ha hw, h w hw⟩
theorem zU1 {v : Value} {bd : Nat} {L' : List Ent} (hat : At L bd (.deferred (some []))) (hu : Upd L bd (.deferred (some [])) (.deferred none) L') (hres : ∀ a w, Fr n [mark bd] F a → Rep w0 w L' → (results fn a.tmps).run P w = .ok v w)
    (h : ∀ w, Rep w0 w L' → R (.returned v) w) : St n [mark bd] w0 F L (BM P fn R .ret) :=
  fun a w ha hw => by
    show LeavesInM (FR none) 0 P fn a.tmps R a.defers .returning w
    rw [ha.defers]
    have hw' : Rep w0 (w.putObj bd (.deferred none)) L' := hw.upd hu
    exact ⟨by simp, .inl ⟨bd, w.putObj bd (.deferred none), rfl, run_takeDeferred (hw.at hat), v, hres a _ ha hw', h _ hw'⟩⟩
end
end Go.Sx
namespace Go.Sx
open Go Go.RowKit
class TE (P : Program) (e : TypeId) (k : outParam Nat) (bytes : outParam Nat) (z : outParam Value) : Prop where
  h : ∃ i : TypeInfo, P.info? e = some i ∧ i.zero = some z ∧ i.size = k ∧ i.bytes = bytes
section
variable {r : Option Nat} {P : Program} {n : Nat} {D : List Deferred} {w0 : World} {F : List (Nat × Value)} {L : List Ent} {Q : Exit → Act → World → Prop} {ops : Array Oper}
variable {d : Tmp} {ty : TypeId} {pos : String} {af : Array Edge} {rest : List Oper}
theorem flat_get {α : Type} {enc : α → List Value} {k : Nat} (hk : ∀ x, (enc x).length = k) : ∀ (xs : List α) (s : List Value) (i : Nat) (x : α), xs[i]? = some x → ∀ j v, (enc x)[j]? = some v → (xs.flatMap enc ++ s)[i * k + j]? = some v
  | [], _, _, _, h => by simp at h
  | y :: ys, s, 0, x, h => by
    intro j v hj
    simp at h; subst h
    have hlt := (List.getElem?_eq_some_iff.1 hj).1
    simp only [List.flatMap_cons, List.append_assoc, Nat.zero_mul, Nat.zero_add]
    rw [List.getElem?_append_left hlt]; exact hj
  | y :: ys, s, i + 1, x, h => by
    intro j v hj
    have ih := flat_get hk ys s i x (by simpa using h) j v hj
    simp only [List.flatMap_cons, List.append_assoc]
    rw [List.getElem?_append_right (by rw [hk, Nat.add_mul]; omega)]
    rw [hk, show (i + 1) * k + j - k = i * k + j from by rw [Nat.add_mul]; omega]
    exact ih
theorem zq5 {α : Type} {enc : α → List Value} {k : Nat} (hk : ∀ x, (enc x).length = k) (xs : List α) : (xs.flatMap enc).length = xs.length * k := by
  induction xs with
  | nil => simp
  | cons x xs ih => simp only [List.flatMap_cons, List.length_append, hk, ih, List.length_cons, Nat.add_mul]; omega
theorem yD5 {t e : TypeId} {x : Operand} {b off : Nat} {c : Array Value} {fz : Nat × Nat} {v : Value} (hA : TA P t false) (hx : ev F x = some (.pointer (some ⟨b, off, none⟩))) (hk : Kn w0 L b (.cells c e fz)) (hv : c[off]? = some v)
    (hd : Nat.ble (d + 1) n = true) (h : St n D w0 ((d, v) :: F) L (WL r P ops Q rest)) : St n D w0 F L (WL r P ops Q (⟨some d, .load t x, ty, pos, af, none⟩ :: rest)) := yo0 hx hk hv hd h
theorem zX0 (m k : Nat) (zl : List Value) (hk : zl.length = k) (hk0 : 0 < k) :
    (Array.range (m * k)).map ((if m * k = 0 then #[] else zl.toArray)[· % (if m * k = 0 then #[] else zl.toArray).size]!) = ((List.replicate m zl).flatten).toArray := by
  by_cases h0 : m * k = 0
  · have hm0 : m = 0 := by rcases Nat.mul_eq_zero.1 h0 with h | h <;> omega
    subst hm0; simp
  · simp only [h0, if_false]
    apply Array.ext'
    simp only [Array.toList_map, Array.toList_range, List.size_toArray, hk]
    clear h0
    induction m with
    | zero => simp
    | succ m ih =>
      rw [List.replicate_succ', List.flatten_append, ← ih, Nat.add_mul, Nat.one_mul, List.range_add, List.map_append]
      congr 1
      simp only [List.map_map]
      apply List.ext_getElem
      · simp [hk]
      · intro i h1 h2
        simp at h1
        simp [Nat.mod_eq_of_lt, hk, h1, Nat.add_mod, Nat.mul_mod_left]
theorem run_buildSlice {t e : TypeId} {k m : Nat} {z : Value} {zl zs out : List Value} {xs : List (Nat × Operand)} {vs : List (Nat × Value)} (hU : TU P t (.slice e)) (hS : TS P e k) (hZ : TZ P e z zl) (hm : m * k ≤ 16777216) (hk : zl.length = k) (hk0 : 0 < k)
    (hzs : (List.replicate m zl).flatten = zs) (hxs : Parts F xs vs) (hf : Fill (fun i => some (i * k, k)) zs vs out) {a : Act} {w : World} (ha : Fr n D F a) :
    (execOp a.eval ⟨some d, .buildSlice t m xs.toArray, ty, pos, af, none⟩).run P w = .ok (.value (.slice (some ⟨w.heap.size, 0, none⟩) m m)) (w.alloc (Ce out e)) := by
  subst hzs
  have hxs' := hxs.map ha
  have e1 : xs.toArray.map (fun x => match x with | (i, x) => (i, a.eval x)) = vs.toArray := by rw [← hxs']; simp
  have hcells := zX0 m k zl hk hk0
  have hfe := hf.eq
  have hm' : ¬ (m * k > 2 ^ 24) := by omega
  simp only [execOp, e1, Instr.buildSlice, Sem.run_bind, zb2 (TU.h (P := P) (t := t)), Result.andThen_ok, TS.h (P := P) (t := e), if_neg hm', Sem.run_pure]
  by_cases h0 : m * k = 0
  · have hm0 : m = 0 := by rcases Nat.mul_eq_zero.1 h0 with h | h <;> omega
    subst hm0
    have hfe' : Instr.fill (fun i => some (i * k, k)) #[] vs = some out.toArray := by simpa using hfe
    have hr0 : (Array.map (fun _ => (default : Value)) (Array.range 0)) = #[] := by simp
    simp [hr0, hfe', newRow]
  · simp only [h0, if_false] at hcells ⊢
    simp only [Sem.run_bind, TZ.h (P := P) (t := e), TZ.hc (P := P) (t := e), Result.andThen_ok, Sem.run_pure, hcells, hfe]
    simp [newRow]
theorem zZ9 {t e : TypeId} {k m : Nat} {z : Value} {zl zs out : List Value} {xs : List (Nat × Operand)} {vs : List (Nat × Value)} (hU : TU P t (.slice e)) (hS : TS P e k) (hZ : TZ P e z zl) (hm : m * k ≤ 16777216) (hk : zl.length = k) (hk0 : 0 < k)
    (hzs : (List.replicate m zl).flatten = zs) (hxs : Parts F xs vs) (hf : Fill (fun i => some (i * k, k)) zs vs out) (hd : Nat.ble (d + 1) n = true)
    (h : ∀ b, St n D w0 ((d, .slice (some ⟨b, 0, none⟩) m m) :: F) (⟨b, Ce out e, true⟩ :: L) (WL r P ops Q rest)) :
    St n D w0 F L (WL r P ops Q (⟨some d, .buildSlice t m xs.toArray, ty, pos, af, none⟩ :: rest)) :=
  zi0 rfl rfl fun a w ha hw => by
    rw [run_buildSlice hU hS hZ hm hk hk0 hzs hxs hf ha]
    exact h _ _ _ (ha.put (Nat.le_of_ble_eq_true hd) _) (hw.alloc _)
inductive OwnS (E : TypeId) (k : Nat) : Value → List Value → List Ent → Prop
  | nil : OwnS E k (.slice none 0 0) [] []
  | row {b m cap : Nat} {xs slack : List Value} : xs.length = m * k → (xs ++ slack).length = cap * k → m ≤ cap → OwnS E k (.slice (some ⟨b, 0, none⟩) m cap) xs [⟨b, Ce (xs ++ slack) E, true⟩]
theorem OwnS.parts {E : TypeId} {k : Nat} {v : Value} {xs : List Value} {N : List Ent} (h : OwnS E k v xs N) : (v = .slice none 0 0 ∧ xs = [] ∧ N = []) ∨
    ∃ b m cap slack, v = .slice (some ⟨b, 0, none⟩) m cap ∧ N = [⟨b, Ce (xs ++ slack) E, true⟩] ∧ xs.length = m * k ∧ (xs ++ slack).length = cap * k ∧ m ≤ cap := by
  cases h with
  | nil => exact .inl ⟨rfl, rfl, rfl⟩
  | row h1 h2 h3 => exact .inr ⟨_, _, _, _, rfl, rfl, h1, h2, h3⟩
theorem OwnS.own {E : TypeId} {k : Nat} {v : Value} {xs : List Value} {N : List Ent} (h : OwnS E k v xs N) : ∀ x ∈ N, x.own = true := by
  cases h <;> simp
theorem zI5 {x y : Operand} {t : TypeId} {a : Act} {w w' : World} {u v res : Value} {g : Option (Nat × Bool)} (hx : a.eval x = u) (hy : a.eval y = v)
    (h : (Builtin.append_ #[t, t] ty #[u, v]).run P w = .ok res w') :
    (execOp a.eval ⟨some d, .call ⟨.builtin .append, #[x, y], #[t, t]⟩, ty, pos, af, g⟩).run P w = .ok (.value res) w' := by
  simp [execOp, resolve, invoke, builtin, hx, hy, h]
theorem m8 {t e : TypeId} {k m : Nat} {x y : Operand} {b off len cap : Nat} {kk : IntKind} {i : Int} (hU : TU P t (.slice e)) (hS : TS P e k) (hx : ev F x = some (.slice (some ⟨b, off, none⟩) len cap)) (hy : ev F y = some (.int kk i)) (hm : i = (m : Int)) (hd : Nat.ble (d + 1) n = true)
    (hi : m < len) (h : St n D w0 ((d, .pointer (some ⟨b, off + m * k, none⟩)) :: F) L (WL r P ops Q rest)) : St n D w0 F L (WL r P ops Q (⟨some d, .indexAddr t x y, ty, pos, af, none⟩ :: rest)) :=
  zf3 rfl hd (fun a w ha _ => by
    subst hm
    simp [execOp, ha.eval hx, ha.eval hy, Instr.indexAt, asIntOf, zb2 (TU.h (P := P) (t := t)), hi, TS.h (P := P) (t := e), zh8]) h
theorem yG9 {t e : TypeId} {k : Nat} {x : Operand} {b off : Nat} {c : Array Value} {fz : Nat × Nat} {l : List Value} (hA : TA P t true) (hS : TS P t k) (hx : ev F x = some (.pointer (some ⟨b, off, none⟩))) (hk : Kn w0 L b (.cells c e fz))
    (hv : ∀ j v, l[j]? = some v → c[off + j]? = some v) (hl : l.length = k)
    (hd : Nat.ble (d + 1) n = true) (h : St n D w0 ((d, .agg l.toArray) :: F) L (WL r P ops Q rest)) : St n D w0 F L (WL r P ops Q (⟨some d, .load t x, ty, pos, af, none⟩ :: rest)) :=
  zf3 rfl hd (fun a w ha hw => by
    subst hl
    have hc := run_loadCells_list (P := P) w ⟨b, off, none⟩ l (fun j v hj => by rw [zh8]; simp [World.cell?, hk w hw, hv j v hj])
    simp [execOp, ha.eval hx, Instr.loadAt, Instr.sureAddr, loadVar, TA.h (P := P) (t := t), TS.h (P := P) (t := t), hc]) h
theorem yL0 {t e : TypeId} {x : Operand} {b p o : Nat} {c : Array Value} {fz : Nat × Nat} {v : Value} {l : List Value} (hA : TA P t false) (hx : ev F x = some (.pointer (some ⟨b, p + o, none⟩))) (hk : Kn w0 L b (.cells c e fz))
    (hE : ∀ j v, l[j]? = some v → c[p + j]? = some v) (hv : Nth l o v)
    (hd : Nat.ble (d + 1) n = true) (h : St n D w0 ((d, v) :: F) L (WL r P ops Q rest)) : St n D w0 F L (WL r P ops Q (⟨some d, .load t x, ty, pos, af, none⟩ :: rest)) :=
  zf3 rfl hd (fun a w ha hw => by
    have hc : w.cell? ⟨b, p + o, none⟩ = some v := by simp [World.cell?, hk w hw, hE o v hv.eq]
    simp [execOp, ha.eval hx, Instr.loadAt, Instr.sureAddr, loadVar, TA.h (P := P) (t := t), hc]) h
theorem zL2 {α : Type} {enc : α → List Value} {k : Nat} (hk : ∀ x, (enc x).length = k) : ∀ (xs : List α) (s : List Value) (m : Nat) (x y : α), xs[m]? = some x → ∀ (o : Nat) (vs : List Value), enc y = (enc x).take o ++ vs ++ (enc x).drop (o + vs.length) → o + vs.length ≤ k →
    (xs.set m y).flatMap enc ++ s = (xs.flatMap enc ++ s).take (m * k + o) ++ vs ++ (xs.flatMap enc ++ s).drop (m * k + o + vs.length)
  | [], s, m, x, y, h, _, _, _, _ => by simp at h
  | z :: xs, s, 0, x, y, h, o, vs, he, ho => by
    simp at h; subst h
    have hz := hk z
    simp only [List.set_cons_zero, List.flatMap_cons, Nat.zero_mul, Nat.zero_add, List.append_assoc, he]
    rw [List.take_append_of_le_length (by omega), List.drop_append_of_le_length (by omega)]
  | z :: xs, s, m + 1, x, y, h, o, vs, he, ho => by
    have ih := zL2 hk xs s m x y (by simpa using h) o vs he ho
    have hz := hk z
    simp only [List.set_cons_succ, List.flatMap_cons, List.append_assoc] at ih ⊢
    rw [show (m + 1) * k + o = k + (m * k + o) from by rw [Nat.add_mul]; omega]
    rw [List.take_append, List.take_of_length_le (by omega), hz, show k + (m * k + o) - k = m * k + o from by omega]
    rw [show k + (m * k + o) + vs.length = k + (m * k + o + vs.length) from by omega, List.drop_append, List.drop_of_length_le (by omega), hz, show k + (m * k + o + vs.length) - k = m * k + o + vs.length from by omega]
    rw [ih]; simp
theorem zV8 {α : Type} {enc : α → List Value} {k : Nat} (hk : ∀ x, (enc x).length = k) {xs : List α} {s : List Value} {m o : Nat} {x : α} {vs : List Value} (h : xs[m]? = some x) (ho : o + vs.length ≤ k) : m * k + o + vs.length ≤ (xs.flatMap enc ++ s).length := by
  have hlt := (List.getElem?_eq_some_iff.1 h).1
  have hfl := zq5 hk xs
  have : (m + 1) * k ≤ xs.length * k := Nat.mul_le_mul_right _ hlt
  rw [Nat.add_mul] at this
  simp only [List.length_append]
  omega
theorem yx5 {α : Type} {enc : α → List Value} {t e : TypeId} {k kk m o : Nat} {x y : Operand} {b p : Nat} {v : Value} {xs : List α} {z : α} (z' : α) {s vs : List Value} {L' : List Ent} (hS : TS P t kk) (hx : ev F x = some (.pointer (some ⟨b, p, none⟩))) (hy : ev F y = some v)
    (hat : At L b (Ce (xs.flatMap enc ++ s) e)) (hz : xs[m]? = some z) (henc : ∀ x, (enc x).length = k) (hp : p = m * k + o) (hvs : v.cells = vs.toArray) (hlen : vs.length = kk) (h1 : ∀ u ∈ vs, u.oneCell' = true) (ho : o + vs.length ≤ k)
    (he : enc z' = (enc z).take o ++ vs ++ (enc z).drop (o + vs.length)) (hu : Upd L b (Ce (xs.flatMap enc ++ s) e) (Ce ((xs.set m z').flatMap enc ++ s) e) L')
    (h : St n D w0 F L' (WL r P ops Q rest)) :
    St n D w0 F L (WL r P ops Q (⟨none, .store t x y, ty, pos, af, none⟩ :: rest)) := by
  subst hp
  exact zR2 (k := kk) hx hy hvs hlen h1 (zV8 henc hz ho) (zL2 henc xs s m z z' hz o vs he ho) hu h
theorem zL0 {P : Program} {w : World} {isS : Bool} {len cap : Nat} {lo hi : Option Value} {l h : Nat} (hlo : lo = none ∧ l = 0 ∨ ∃ k, lo = some (.int k l)) (hhi : hi = none ∧ h = len ∨ ∃ k, hi = some (.int k h)) (h1 : l ≤ h) (h2 : h ≤ cap) :
    (Instr.sliceBounds isS len cap lo hi none).run P w = .ok (l, h, cap) w := by
  rcases hlo with ⟨rfl, rfl⟩ | ⟨k, rfl⟩ <;> rcases hhi with ⟨rfl, rfl⟩ | ⟨k', rfl⟩ <;> simp [Instr.sliceBounds, Instr.sliceBound, asIntOf, h1, h2]
def opv (F : List (Nat × Value)) : Option Operand → Option (Option Value)
  | none => some none
  | some x => (ev F x).map some
theorem yx6 {a : Act} (ha : Fr n D F a) {x : Option Operand} {v : Option Value} (h : opv F x = some v) : x.map a.eval = v := by
  cases x with
  | none => simp [opv] at h; simp [h]
  | some x =>
    simp only [opv] at h
    cases hx : ev F x with
    | none => rw [hx] at h; cases h
    | some u => rw [hx] at h; simp at h; subst h; simp [ha.eval hx]
theorem ye4 {t e : TypeId} {k : Nat} {x : Operand} {hi : Option Operand} {vhi : Option Value} {a0 : Option Addr} {len cap h' : Nat} (hU : TU P t (.slice e)) (hS : TS P e k) (hx : ev F x = some (.slice a0 len cap)) (h2 : opv F hi = some vhi)
    (hhi : vhi = none ∧ h' = len ∨ ∃ k, vhi = some (.int k h')) (hb : h' ≤ cap) (hd : Nat.ble (d + 1) n = true)
    (h : St n D w0 ((d, .slice a0 h' cap) :: F) L (WL r P ops Q rest)) : St n D w0 F L (WL r P ops Q (⟨some d, .slice t x none hi none, ty, pos, af, none⟩ :: rest)) :=
  zf3 rfl hd (fun a w ha _ => by
    have e2 := yx6 ha h2
    have hsb := zL0 (P := P) (w := w) (isS := true) (len := len) (cap := cap) (l := 0) (.inl ⟨rfl, rfl⟩) hhi (Nat.zero_le _) hb
    have e3 : (if cap = 0 then a0 else a0.map (·.add (0 * k))) = a0 := by
      split
      · rfl
      · cases a0 with
        | none => rfl
        | some p => simp [Addr.add]
    simp [execOp, ha.eval hx, e2, Instr.sliceAt, Instr.slice, zb2 (TU.h (P := P) (t := t)), hsb, TS.h (P := P) (t := e)]
    intro _
    cases a0 with
    | none => rfl
    | some p => simp [Addr.add]) h
theorem run_makeSlice {t e : TypeId} {k bytes m c : Nat} {kl kc : IntKind} {z : Value} {zl : List Value} {x y : Operand} (hU : TU P t (.slice e)) (hE : TE P e k bytes z) (hzl : z.cells = zl.toArray) (hx : ev F x = some (.int kl m)) (hy : ev F y = some (.int kc c)) (hk : zl.length = k) (hk0 : 0 < k)
    (hm : m ≤ c ∧ c ≤ 140737488355328 ∧ c * bytes ≤ 140737488355328) {a : Act} {w : World} (ha : Fr n D F a) :
    (execOp a.eval ⟨some d, .makeSlice t x y, ty, pos, af, none⟩).run P w = .ok (.value (.slice (some ⟨w.heap.size, 0, none⟩) m c)) (w.alloc (Ce ((List.replicate c zl).flatten) e)) := by
  obtain ⟨i, hi, hz, hik, hib⟩ := hE.h
  have hcells := zX0 c k zl hk hk0
  have wl : IntKind.i64.wrap (m : Int) = m := by rw [IntKind.wrap_i64]; omega
  have wc : IntKind.i64.wrap (c : Int) = c := by rw [IntKind.wrap_i64]; omega
  have n1 : ¬ (c : Int) < 0 := by omega
  have n2 : ¬ (281474976710656 < (i.bytes : Int) * (c : Int)) := by
    rw [hib]
    have : (bytes : Int) * (c : Int) = ((c * bytes : Nat) : Int) := by rw [Nat.mul_comm]; simp
    omega
  have n3 : ¬ (m : Int) < 0 := by omega
  have n4 : ¬ c < m := by omega
  subst hik
  by_cases hn : c * i.size = 0
  · have hc0 : c = 0 := by rcases Nat.mul_eq_zero.1 hn with h | h <;> omega
    subst hc0
    have hm0 : m = 0 := by omega
    subst hm0
    simp [execOp, ha.eval hx, ha.eval hy, Instr.makeSlice, zb2 (TU.h (P := P) (t := t)), asInt, asIntOf, typeInfo, hi, sizeOf, newRow, askRoom, roomBytes, IntKind.wrap_i64]
    have e0 : Array.map (fun (x : Nat) => (default : Value)) (Array.range 0) = #[] := by simp
    rw [e0]
  · simp only [hn, if_false] at hcells
    simp [execOp, ha.eval hx, ha.eval hy, Instr.makeSlice, zb2 (TU.h (P := P) (t := t)), asInt, asIntOf, typeInfo, hi, sizeOf, zeroValue, hz, wl, wc, n1, n2, n3, n4, hn, newRow, askRoom, roomBytes, hzl]
    simp at hcells
    rw [hcells]
theorem ye3 {t e : TypeId} {k bytes m c : Nat} {kl kc : IntKind} {z : Value} {zl : List Value} {x y : Operand} (hU : TU P t (.slice e)) (hE : TE P e k bytes z) (hzl : z.cells = zl.toArray) (hx : ev F x = some (.int kl m)) (hy : ev F y = some (.int kc c)) (hk : zl.length = k) (hk0 : 0 < k)
    (hm : m ≤ c ∧ c ≤ 140737488355328 ∧ c * bytes ≤ 140737488355328) (hd : Nat.ble (d + 1) n = true)
    (h : ∀ b, St n D w0 ((d, .slice (some ⟨b, 0, none⟩) m c) :: F) (⟨b, Ce ((List.replicate c zl).flatten) e, true⟩ :: L) (WL r P ops Q rest)) :
    St n D w0 F L (WL r P ops Q (⟨some d, .makeSlice t x y, ty, pos, af, none⟩ :: rest)) :=
  zi0 rfl rfl fun a w ha hw => by
    rw [run_makeSlice hU hE hzl hx hy hk hk0 hm ha]
    exact h _ _ _ (ha.put (Nat.le_of_ble_eq_true hd) _) (hw.alloc _)
end
end Go.Sx
