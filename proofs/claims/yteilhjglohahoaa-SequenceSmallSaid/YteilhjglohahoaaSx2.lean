/- The rules of the small logic: code, ends, calls, loops. No program in sight. -/
import Derived.Test.YteilhjglohahoaaSx1
import Derived.RangeFuncNested
import Derived.RangeFuncCalls
import Derived.TacticsInMore
import Derived.OwnWalkIn
namespace Go.Sx
open Go Go.RowKit

/-- Every function; frames of functions (none), or of the rounds of loop l (some l). -/
def FR (r : Option Nat) : Fence := { fn := fun _ => True, depth := none, alive := false, round := r }
def WC (r : Option Nat) (P : Program) (c : Code) (Q : Exit → Act → World → Prop) : Act → World → Prop := fun a w => c.wpIn (FR r) 0 P Q a w
def WL (r : Option Nat) (P : Program) (ops : Array Oper) (Q : Exit → Act → World → Prop) (l : List Oper) : Act → World → Prop := fun a w => wpListIn (FR r) 0 P ops Q l a w
theorem calls_FR {r : Option Nat} {P : Program} {f : FuncId} {args : Array Value} {w : World} {R : Ending → World → Prop} (h : Calls P f args w R) : CallsIn (FR r) 0 P f args w R := by
  have h0 : CallsIn Fence.wide 0 P f args w R := callsIn_wide.2 h
  cases r with
  | none => exact h0
  | some l => exact h0.inRound l
theorem calls_of_FR {P : Program} {f : FuncId} {args : Array Value} {w : World} {R : Ending → World → Prop} (h : CallsIn (FR none) 0 P f args w R) : Calls P f args w R :=
  (callsIn_wide (n := 0)).1 h
/-- No deferred call: carried out alike in a function's frame and in a round's. -/
def nd : Op → Bool
  | .defer _ => false
  | _ => true
theorem semAt_nd {r : Option Nat} {ρ : Operand → Value} {o : Oper} (h : nd o.op = true) : Oper.semAt r ρ o = execOp ρ o :=
  Oper.semAt_eq r ρ o (fun c hc => by rw [hc] at h; cases h)

def St (n : Nat) (D : List Deferred) (w0 : World) (F : List (Nat × Value)) (L : List Ent) (X : Act → World → Prop) : Prop :=
  ∀ a w, Fr n D F a → Rep w0 w L → X a w

section
variable {r : Option Nat} {P : Program} {n : Nat} {D : List Deferred} {w0 : World} {F : List (Nat × Value)} {L : List Ent} {Q : Exit → Act → World → Prop} {K : Act → World → Prop} {ops : Array Oper}

theorem St.weak {F' : List (Nat × Value)} {L' : List Ent} {X : Act → World → Prop} (hF : FSub F' F) (hL : HSub L' L) (h : St n D w0 F' L' X) : St n D w0 F L X :=
  fun a w ha hw => h a w (ha.sub hF) (hw.sub hL)
theorem St.imp {X Y : Act → World → Prop} (h : St n D w0 F L X) (hXY : ∀ a w, X a w → Y a w) : St n D w0 F L Y := fun a w ha hw => hXY a w (h a w ha hw)

/-! ## code -/
theorem c_seq {x y : Code} (h : St n D w0 F L (WC r P x (Exit.then (WC r P y Q) Q))) : St n D w0 F L (WC r P (.seq x y) Q) := fun a w ha hw => wpIn_seq (h a w ha hw)
theorem c_block {id : Nat} {c : Code} (h : St n D w0 F L (WC r P c (Exit.inBlock id Q))) : St n D w0 F L (WC r P (.block id c) Q) := fun a w ha hw => wpIn_block (h a w ha hw)
theorem c_skip (h : St n D w0 F L (Q .normal)) : St n D w0 F L (WC r P .skip Q) := fun a w ha hw => wpIn_skip (h a w ha hw)
theorem c_ret (h : St n D w0 F L (Q .ret)) : St n D w0 F L (WC r P .ret Q) := fun a w ha hw => wpIn_ret (h a w ha hw)
theorem c_exit {id : Nat} (h : St n D w0 F L (Q (.exit id))) : St n D w0 F L (WC r P (.exit id) Q) := fun a w ha hw => wpIn_exit (h a w ha hw)
theorem c_label {id : Nat} (h : St n D w0 F L (Q .normal)) : St n D w0 F L (WC r P (.label id) Q) := fun a w ha hw => wpIn_label (h a w ha hw)
theorem c_cond {c : Operand} {x y : Code} {t : Bool} (hc : ev F c = some (.bool t)) (ht : t = true → St n D w0 F L (WC r P x Q)) (hf : t = false → St n D w0 F L (WC r P y Q)) :
    St n D w0 F L (WC r P (.cond c x y) Q) := fun a w ha hw => wpIn_cond_split (ha.eval hc) (fun h => ht h a w ha hw) (fun h => hf h a w ha hw)
theorem c_cond_t {c : Operand} {x y : Code} {t : Bool} (hc : ev F c = some (.bool t)) (h : t = true) (ht : St n D w0 F L (WC r P x Q)) :
    St n D w0 F L (WC r P (.cond c x y) Q) := c_cond hc (fun _ => ht) (fun h' => by rw [h] at h'; cases h')
theorem c_cond_f {c : Operand} {x y : Code} {t : Bool} (hc : ev F c = some (.bool t)) (h : t = false) (hf : St n D w0 F L (WC r P y Q)) :
    St n D w0 F L (WC r P (.cond c x y) Q) := c_cond hc (fun h' => by rw [h] at h'; cases h') (fun _ => hf)
theorem c_region {id : Nat} {l : List Oper} (h : St n D w0 F L (WL r P l.toArray Q l)) : St n D w0 F L (WC r P (.region id l.toArray false) Q) :=
  fun a w ha hw => wpIn_region_lit (h a w ha hw)
theorem c_nil (h : St n D w0 F L (Q .normal)) : St n D w0 F L (WL r P ops Q []) := h

/-- A proposition as a bool. -/
noncomputable def B (p : Prop) : Bool := @decide p (Classical.propDecidable p)
theorem B_true {p : Prop} (h : p) : B p = true := by unfold B; exact @decide_eq_true _ (Classical.propDecidable p) h
theorem B_false {p : Prop} (h : ¬ p) : B p = false := by unfold B; exact @decide_eq_false _ (Classical.propDecidable p) h
theorem of_B {p : Prop} (h : B p = true) : p := by unfold B at h; exact @of_decide_eq_true _ (Classical.propDecidable p) h
theorem of_not_B {p : Prop} (h : B p = false) : ¬ p := by unfold B at h; exact @of_decide_eq_false _ (Classical.propDecidable p) h
theorem B_iff {p : Prop} : (B p = true) ↔ p := ⟨of_B, B_true⟩
theorem ret_bool {x : Bool} {p : Prop} (h : x = true ↔ p) : Ending.returned (.bool x) = .returned (.bool (B p)) := by
  have : x = B p := by
    cases hx : x with
    | true => exact (B_true (h.1 hx)).symm
    | false => exact (B_false (fun hp => by rw [h.2 hp] at hx; cases hx)).symm
  rw [this]
theorem B_congr {p q : Prop} (h : p ↔ q) : B p = B q := by rw [propext h]
theorem B_of_bool (b : Bool) : B (b = true) = b := by cases b <;> simp [B]
theorem decide_B {p : Prop} [Decidable p] : decide p = B p := by
  by_cases h : p
  · rw [B_true h]; simpa using h
  · rw [B_false h]; simpa using h
theorem c_cond_d {c : Operand} {x y : Code} {p : Prop} {_ : Decidable p} (hc : ev F c = some (.bool (decide p))) (ht : p → St n D w0 F L (WC r P x Q)) (hf : ¬ p → St n D w0 F L (WC r P y Q)) :
    St n D w0 F L (WC r P (.cond c x y) Q) := c_cond hc (fun h => ht (of_decide_eq_true h)) (fun h => hf (of_decide_eq_false h))
theorem c_cond_B {c : Operand} {x y : Code} {p : Prop} (hc : ev F c = some (.bool (B p))) (ht : p → St n D w0 F L (WC r P x Q)) (hf : ¬ p → St n D w0 F L (WC r P y Q)) :
    St n D w0 F L (WC r P (.cond c x y) Q) := c_cond hc (fun h => ht (of_B h)) (fun h => hf (of_not_B h))

/-! ## ends -/
theorem e_then (h : St n D w0 F L K) : St n D w0 F L (Exit.then K Q .normal) := h
theorem e_then_ret (h : St n D w0 F L (Q .ret)) : St n D w0 F L (Exit.then K Q .ret) := h
theorem e_then_exit {id : Nat} (h : St n D w0 F L (Q (.exit id))) : St n D w0 F L (Exit.then K Q (.exit id)) := h
theorem e_in {id : Nat} (h : St n D w0 F L (Q .normal)) : St n D w0 F L (Exit.inBlock id Q .normal) := h
theorem e_in_ret {id : Nat} (h : St n D w0 F L (Q .ret)) : St n D w0 F L (Exit.inBlock id Q .ret) := h
theorem e_in_same {id : Nat} (h : St n D w0 F L (Q .normal)) : St n D w0 F L (Exit.inBlock id Q (.exit id)) := fun a w ha hw => by
  show (if id = id then Q .normal a w else Q (.exit id) a w); rw [if_pos rfl]; exact h a w ha hw
theorem e_in_other {id j : Nat} (hne : Nat.beq j id = false) (h : St n D w0 F L (Q (.exit j))) : St n D w0 F L (Exit.inBlock id Q (.exit j)) := fun a w ha hw => by
  have : j ≠ id := fun e => by subst e; simp at hne
  show (if j = id then Q .normal a w else Q (.exit j) a w); rw [if_neg this]; exact h a w ha hw

/-! ## one operation -/
theorem wanted_none {o : Oper} {y : Nat → Option Bool} (h : o.guard = none) : Region.wanted o y = true := by simp [Region.wanted, h]
theorem o_plain {o : Oper} {rest : List Oper} (hg : o.guard = none) (hnd : nd o.op = true)
    (h : ∀ a w, Fr n D F a → Rep w0 w L → o.uponIn (FR r) 0 P a (WL r P ops Q rest) Q ((execOp a.eval o).run P w)) : St n D w0 F L (WL r P ops Q (o :: rest)) := by
  intro a w ha hw
  show (if Region.wanted o (yielded ops a.tmps) then _ else _)
  rw [wanted_none hg]
  refine ⟨fun _ _ => trivial, ?_⟩
  rw [show o.semAt (FR r).round a.eval = execOp a.eval o from semAt_nd hnd]
  exact h a w ha hw

def gv (ops : Array Oper) (F : List (Nat × Value)) (j : Nat) : Option Value := ((ops[j]?).bind (·.dst)).bind (lk F)
theorem yielded_of {a : Act} {j : Nat} {b : Bool} (ha : Fr n D F a) (h : gv ops F j = some (.bool b)) : yielded ops a.tmps j = some b := by
  unfold gv at h
  unfold yielded
  cases hd : (ops[j]?).bind (·.dst) with
  | none => simp [hd] at h
  | some t =>
    simp only [hd, Option.bind_some] at h ⊢
    rw [ha.get t _ h]
theorem yielded_undef {a : Act} {j : Nat} (ha : Fr n D F a) (h : gv ops F j = some undef) : yielded ops a.tmps j = none := by
  unfold gv at h
  unfold yielded
  cases hd : (ops[j]?).bind (·.dst) with
  | none => simp [hd] at h
  | some t =>
    simp only [hd, Option.bind_some] at h ⊢
    rw [ha.get t _ h]
    rfl

theorem semAt_guard (r : Option Nat) (ρ : Operand → Value) (d : Option Tmp) (op : Op) (ty : TypeId) (pos : String) (af : Array Edge) (g g' : Option (Nat × Bool)) :
    Oper.semAt r ρ ⟨d, op, ty, pos, af, g⟩ = Oper.semAt r ρ ⟨d, op, ty, pos, af, g'⟩ := by
  cases r <;> cases op <;> rfl
theorem g_run {d : Option Tmp} {op : Op} {ty : TypeId} {pos : String} {af : Array Edge} {j : Nat} {b : Bool} {rest : List Oper} {c : Bool} (hj : gv ops F j = some (.bool c)) (hc : c = b)
    (h : St n D w0 F L (WL r P ops Q (⟨d, op, ty, pos, af, none⟩ :: rest))) : St n D w0 F L (WL r P ops Q (⟨d, op, ty, pos, af, some (j, b)⟩ :: rest)) := by
  intro a w ha hw
  subst hc
  have h1 := h a w ha hw
  show (if Region.wanted _ (yielded ops a.tmps) then _ else _)
  have hw1 : Region.wanted ⟨d, op, ty, pos, af, some (j, c)⟩ (yielded ops a.tmps) = true := by simp [Region.wanted, yielded_of ha hj]
  have hw2 : Region.wanted ⟨d, op, ty, pos, af, none⟩ (yielded ops a.tmps) = true := rfl
  rw [if_pos hw1]
  have h1' : wpListIn (FR r) 0 P ops Q (⟨d, op, ty, pos, af, none⟩ :: rest) a w := h1
  simp only [wpListIn, hw2, if_true] at h1'
  refine ⟨fun _ _ => trivial, ?_⟩
  rw [semAt_guard _ _ _ _ _ _ _ _ none]
  exact h1'.2

theorem g_skip {d : Tmp} {op : Op} {ty : TypeId} {pos : String} {af : Array Edge} {j : Nat} {b : Bool} {rest : List Oper} {c : Bool} (hj : gv ops F j = some (.bool c)) (hc : c = !b) (hd : Nat.ble (d + 1) n = true)
    (h : St n D w0 ((d, undef) :: F) L (WL r P ops Q rest)) : St n D w0 F L (WL r P ops Q (⟨some d, op, ty, pos, af, some (j, b)⟩ :: rest)) := by
  intro a w ha hw
  subst hc
  show (if Region.wanted _ (yielded ops a.tmps) then _ else _)
  have hw1 : Region.wanted ⟨some d, op, ty, pos, af, some (j, b)⟩ (yielded ops a.tmps) = false := by simp [Region.wanted, yielded_of ha hj]
  rw [hw1]
  exact ⟨fun _ _ => trivial, h _ w (ha.put (Nat.le_of_ble_eq_true hd) undef) hw⟩
theorem g_skip_none {op : Op} {ty : TypeId} {pos : String} {af : Array Edge} {j : Nat} {b : Bool} {rest : List Oper} {c : Bool} (hj : gv ops F j = some (.bool c)) (hc : c = !b)
    (h : St n D w0 F L (WL r P ops Q rest)) : St n D w0 F L (WL r P ops Q (⟨none, op, ty, pos, af, some (j, b)⟩ :: rest)) := by
  intro a w ha hw
  subst hc
  show (if Region.wanted _ (yielded ops a.tmps) then _ else _)
  have hw1 : Region.wanted ⟨none, op, ty, pos, af, some (j, b)⟩ (yielded ops a.tmps) = false := by simp [Region.wanted, yielded_of ha hj]
  rw [hw1]
  exact ⟨fun _ _ => trivial, h _ w ha hw⟩
/-- The guard itself was passed over. -/
theorem g_skip_undef {d : Tmp} {op : Op} {ty : TypeId} {pos : String} {af : Array Edge} {j : Nat} {b : Bool} {rest : List Oper} (hj : gv ops F j = some undef) (hd : Nat.ble (d + 1) n = true)
    (h : St n D w0 ((d, undef) :: F) L (WL r P ops Q rest)) : St n D w0 F L (WL r P ops Q (⟨some d, op, ty, pos, af, some (j, b)⟩ :: rest)) := by
  intro a w ha hw
  show (if Region.wanted _ (yielded ops a.tmps) then _ else _)
  have hw1 : Region.wanted ⟨some d, op, ty, pos, af, some (j, b)⟩ (yielded ops a.tmps) = false := by simp [Region.wanted, yielded_undef ha hj]
  rw [hw1]
  exact ⟨fun _ _ => trivial, h _ w (ha.put (Nat.le_of_ble_eq_true hd) undef) hw⟩
theorem g_split {d : Option Tmp} {op : Op} {ty : TypeId} {pos : String} {af : Array Edge} {j : Nat} {b : Bool} {rest : List Oper} {c : Bool} (hj : gv ops F j = some (.bool c))
    (ht : c = true → St n D w0 F L (WL r P ops Q (⟨d, op, ty, pos, af, some (j, b)⟩ :: rest))) (hf : c = false → St n D w0 F L (WL r P ops Q (⟨d, op, ty, pos, af, some (j, b)⟩ :: rest))) :
    St n D w0 F L (WL r P ops Q (⟨d, op, ty, pos, af, some (j, b)⟩ :: rest)) := by
  cases c
  · exact hf rfl
  · exact ht rfl

theorem g_split_d {d : Option Tmp} {op : Op} {ty : TypeId} {pos : String} {af : Array Edge} {j : Nat} {b : Bool} {rest : List Oper} {p : Prop} {_ : Decidable p} (hj : gv ops F j = some (.bool (decide p)))
    (ht : p → St n D w0 F L (WL r P ops Q (⟨d, op, ty, pos, af, some (j, b)⟩ :: rest))) (hf : ¬ p → St n D w0 F L (WL r P ops Q (⟨d, op, ty, pos, af, some (j, b)⟩ :: rest))) :
    St n D w0 F L (WL r P ops Q (⟨d, op, ty, pos, af, some (j, b)⟩ :: rest)) := g_split hj (fun h => ht (of_decide_eq_true h)) (fun h => hf (of_decide_eq_false h))
theorem g_split_B {d : Option Tmp} {op : Op} {ty : TypeId} {pos : String} {af : Array Edge} {j : Nat} {b : Bool} {rest : List Oper} {p : Prop} (hj : gv ops F j = some (.bool (B p)))
    (ht : p → St n D w0 F L (WL r P ops Q (⟨d, op, ty, pos, af, some (j, b)⟩ :: rest))) (hf : ¬ p → St n D w0 F L (WL r P ops Q (⟨d, op, ty, pos, af, some (j, b)⟩ :: rest))) :
    St n D w0 F L (WL r P ops Q (⟨d, op, ty, pos, af, some (j, b)⟩ :: rest)) := g_split hj (fun h => ht (of_B h)) (fun h => hf (of_not_B h))

/-- The operation yields v and leaves the world. -/
theorem o_val {d : Tmp} {op : Op} {ty : TypeId} {pos : String} {af : Array Edge} {rest : List Oper} {v : Value} (hnd : nd op = true) (hd : Nat.ble (d + 1) n = true)
    (hv : ∀ a w, Fr n D F a → Rep w0 w L → (execOp a.eval ⟨some d, op, ty, pos, af, none⟩).run P w = .ok (.value v) w)
    (h : St n D w0 ((d, v) :: F) L (WL r P ops Q rest)) : St n D w0 F L (WL r P ops Q (⟨some d, op, ty, pos, af, none⟩ :: rest)) :=
  o_plain rfl hnd fun a w ha hw => by
    rw [hv a w ha hw]
    exact h _ w (ha.put (Nat.le_of_ble_eq_true hd) v) hw

/-- Evaluated operands. -/
inductive Evs (F : List (Nat × Value)) : List Operand → List Value → Prop
  | nil : Evs F [] []
  | cons {x : Operand} {v : Value} {xs : List Operand} {vs : List Value} : ev F x = some v → Evs F xs vs → Evs F (x :: xs) (v :: vs)
theorem Evs.map {a : Act} (ha : Fr n D F a) {xs : List Operand} {vs : List Value} (h : Evs F xs vs) : xs.map a.eval = vs := by
  induction h with
  | nil => rfl
  | cons hx _ ih => simp [ha.eval hx, ih]

/-! ## calls -/
/-- Function f is Go text: fn. -/
class TC (P : Program) (f : FuncId) (fn : outParam Func) : Prop where
  hf : P.funcs[f]? = some fn
  hb : ∃ c, fn.body = some c
  hn : (fn.name == "runtime.NumGoroutine") = false
theorem run_callOp {f : FuncId} {fn : Func} [TC P f fn] {ρ : Operand → Value} {xs : List Operand} {vs : List Value} {d : Option Tmp} {ty : TypeId} {pos : String} {af : Array Edge} {g : Option (Nat × Bool)} {ats : Array TypeId} {w : World}
    (hxs : xs.map ρ = vs) {x : Operand} {caps : Array Value} (hx : ρ x = .func (.func f) #[] caps) :
    (execOp ρ ⟨d, .call ⟨.value x, xs.toArray, ats⟩, ty, pos, af, g⟩).run P w = .ok (.enter f (vs.toArray ++ caps)) w := by
  subst hxs
  obtain ⟨c, hb⟩ := TC.hb (P := P) (f := f)
  have hn' : ¬ fn.name = "runtime.NumGoroutine" := by simpa using TC.hn (P := P) (f := f)
  simp [execOp, resolve, Deferred.ofValue, hx, invoke, callFunc, TC.hf (P := P) (f := f), hb, hn']

theorem o_call {d : Tmp} {f : FuncId} {fn : Func} [TC P f fn] {x : Operand} {caps : Array Value} {xs : List Operand} {vs : List Value} {ty : TypeId} {pos : String} {af : Array Edge} {ats : Array TypeId} {rest : List Oper}
    (hx : ev F x = some (.func (.func f) #[] caps)) (hd : Nat.ble (d + 1) n = true) (hxs : Evs F xs vs)
    {Φ : World → Value → World → Prop} (hc : ∀ w, Rep w0 w L → Calls P f (vs.toArray ++ caps) w fun e w' => ∃ v, e = .returned v ∧ Φ w v w')
    (h : ∀ w v, Rep w0 w L → ∀ a w', Φ w v w' → Fr n D ((d, v) :: F) a → WL r P ops Q rest a w') :
    St n D w0 F L (WL r P ops Q (⟨some d, .call ⟨.value x, xs.toArray, ats⟩, ty, pos, af, none⟩ :: rest)) :=
  o_plain rfl rfl fun a w ha hw => by
    rw [run_callOp (hxs.map ha) (ha.eval hx)]
    refine ⟨(fun h => (by cases h)), calls_FR ((hc w hw).mono ?_)⟩
    rintro e w' ⟨v, rfl, hΦ⟩
    exact h w v hw _ w' hΦ (ha.put (Nat.le_of_ble_eq_true hd) v)

/-- A callee that leaves all that lay as it lay, and whose result is known. -/
theorem o_call_pure {d : Tmp} {f : FuncId} {fn : Func} [TC P f fn] {xs : List Operand} {vs : List Value} {ty : TypeId} {pos : String} {af : Array Edge} {ats : Array TypeId} {rest : List Oper} {v : Value}
    (hd : Nat.ble (d + 1) n = true) (hxs : Evs F xs vs)
    (hc : ∀ w, Rep w0 w L → Calls P f vs.toArray w fun e w' => e = .returned v ∧ Below w.heap.size w w')
    (h : St n D w0 ((d, v) :: F) L (WL r P ops Q rest)) :
    St n D w0 F L (WL r P ops Q (⟨some d, .call ⟨.value (.func f), xs.toArray, ats⟩, ty, pos, af, none⟩ :: rest)) :=
  o_call (x := .func f) (caps := #[]) (Φ := fun w u w' => u = v ∧ Below w.heap.size w w') rfl hd hxs (fun w hw => by
    rw [Array.append_empty]
    refine (hc w hw).mono ?_
    rintro e w' ⟨rfl, hB⟩
    exact ⟨v, rfl, rfl, hB⟩) (fun w u hw a w' hΦ ha => by obtain ⟨rfl, hB⟩ := hΦ; exact h a w' ha (hw.grow hB))

/-- Heaps put together: what a callee has made beside what the caller knows. -/
theorem Rep.beside {w w' : World} {N : List Ent} (h : Rep w0 w L) (hN : Rep w w' N) (ho : ∀ x ∈ N, x.own = true) : Rep w0 w' (N ++ L) := by
  have hg := h.grow (hN.below ho)
  refine ⟨hg.os, hg.tape, hg.output, hg.size, fun x hx => ?_, fun x hx hxo => ?_, ?_, fun b hb hx => hg.frame b hb fun x hxL => hx x (List.mem_append_right _ hxL)⟩
  · rcases List.mem_append.1 hx with hx | hx
    · exact hN.ok x hx
    · exact hg.ok x hx
  · rcases List.mem_append.1 hx with hx | hx
    · exact Nat.le_trans h.size (hN.own x hx hxo)
    · exact hg.own x hx hxo
  · rw [List.map_append, List.nodup_append]
    refine ⟨hN.nd, hg.nd, fun x hx y hy e => ?_⟩
    obtain ⟨x', hx', rfl⟩ := List.mem_map.1 hx
    obtain ⟨y', hy', rfl⟩ := List.mem_map.1 hy
    have h1 := hN.own x' hx' (ho x' hx')
    have h2 := h.lt hy'
    omega

/-- A callee that makes memory of its own for its result. -/
theorem o_call_new {d : Tmp} {f : FuncId} {fn : Func} [TC P f fn] {xs : List Operand} {vs : List Value} {ty : TypeId} {pos : String} {af : Array Edge} {ats : Array TypeId} {rest : List Oper} {φ : Value → List Ent → Prop}
    (hd : Nat.ble (d + 1) n = true) (hxs : Evs F xs vs)
    (hc : ∀ w, Rep w0 w L → Calls P f vs.toArray w fun e w' => ∃ v N, e = .returned v ∧ φ v N ∧ Rep w w' N ∧ ∀ x ∈ N, x.own = true)
    (h : ∀ v N, φ v N → St n D w0 ((d, v) :: F) (N ++ L) (WL r P ops Q rest)) :
    St n D w0 F L (WL r P ops Q (⟨some d, .call ⟨.value (.func f), xs.toArray, ats⟩, ty, pos, af, none⟩ :: rest)) :=
  o_call (x := .func f) (caps := #[]) (Φ := fun w u w' => ∃ N, φ u N ∧ Rep w w' N ∧ ∀ x ∈ N, x.own = true) rfl hd hxs (fun w hw => by
    rw [Array.append_empty]
    refine (hc w hw).mono ?_
    rintro e w' ⟨v, N, rfl, hφ, hN, ho⟩
    exact ⟨v, rfl, N, hφ, hN, ho⟩) (fun w u hw a w' hΦ ha => by
      obtain ⟨N, hφ, hN, ho⟩ := hΦ
      exact h u N hφ a w' ha (hw.beside hN ho))

/-! ## a loop -/
/-- The round's end: a state of the loop's form, with a lower measure. -/
def Again {σ : Type} (n : Nat) (D : List Deferred) (w0 : World) (Fs : σ → List (Nat × Value)) (Ls : σ → List Ent) (I : σ → Prop) (μ : σ → Nat) (s : σ) : Act → World → Prop :=
  fun a w => ∃ s', I s' ∧ μ s' < μ s ∧ Fr n D (Fs s') a ∧ Rep w0 w (Ls s')
/-- The ways' meeting: a state of the form. -/
def Meet {σ : Type} (n : Nat) (D : List Deferred) (w0 : World) (Fs : σ → List (Nat × Value)) (Ls : σ → List Ent) (I : σ → Prop) : Act → World → Prop :=
  fun a w => ∃ s, I s ∧ Fr n D (Fs s) a ∧ Rep w0 w (Ls s)

theorem c_loop {c : Code} {σ : Type} (Fs : σ → List (Nat × Value)) (Ls : σ → List Ent) (I : σ → Prop) (μ : σ → Nat) (s0 : σ) (hI : I s0) (hF : FSub (Fs s0) F) (hL : HSub (Ls s0) L)
    (round : ∀ s, I s → St n D w0 (Fs s) (Ls s) (WC r P c (Exit.then (Again n D w0 Fs Ls I μ s) Q))) :
    St n D w0 F L (WC r P (.loop c) Q) := by
  intro a w ha hw b k cs hro hb hr
  have key : ∀ (m : Nat) (s : σ), μ s = m → I s → ∀ a w, Fr n D (Fs s) a → Rep w0 w (Ls s) →
      ∃ e a' w', Q e a' w' ∧ ArrivesIn (Machine.fenced P (FR r)) P (lone (b.atR a (.code c :: .inLoop c :: k)) cs w) b k cs e a' w' := by
    intro m
    induction m using Nat.strongRecOn with
    | _ m ih =>
      intro s hm hIs a w ha hw
      obtain ⟨e, a₁, w₁, hq, harr⟩ := round s hIs a w ha hw b (.inLoop c :: k) cs hro hb hr
      cases e with
      | normal =>
        obtain ⟨s', hI', hlt, ha', hw'⟩ := hq
        obtain ⟨e₂, a₂, w₂, hq₂, harr₂⟩ := ih (μ s') (hm ▸ hlt) s' rfl hI' a₁ w₁ ha' hw'
        exact ⟨e₂, a₂, w₂, hq₂, .of_steps (StepsIn.trans harr (.one (fenced_calm hb hr rfl) stepR_inLoop)) harr₂⟩
      | exit id => exact ⟨_, a₁, w₁, hq, .pass (x := .inLoop c) rfl (fun _ _ => .inl (by simp)) harr⟩
      | goto l => exact ⟨_, a₁, w₁, hq, .pass (x := .inLoop c) rfl (fun _ _ => .inl (by simp)) harr⟩
      | ret => exact ⟨_, a₁, w₁, hq, .pass (x := .inLoop c) rfl (fun _ _ => .inl (by simp)) harr⟩
      | panic ch => exact ⟨_, a₁, w₁, hq, .pass (x := .inLoop c) rfl (fun _ _ => .inl (by simp)) harr⟩
      | outgrown => exact ⟨_, a₁, w₁, hq, .pass (x := .inLoop c) rfl (fun _ _ => .inl (by simp)) harr⟩
  obtain ⟨e, a', w', hq, harr⟩ := key _ s0 rfl hI a w (ha.sub hF) (hw.sub hL)
  exact ⟨e, a', w', hq, .of_steps (.one (fenced_calm hb hr rfl) stepR_loop) harr⟩

theorem l_again {σ : Type} {Fs : σ → List (Nat × Value)} {Ls : σ → List Ent} {I : σ → Prop} {μ : σ → Nat} {s : σ} (s' : σ) (hI : I s') (hμ : μ s' < μ s) (hF : FSub (Fs s') F) (hL : HSub (Ls s') L) :
    St n D w0 F L (Again n D w0 Fs Ls I μ s) :=
  fun _ _ ha hw => ⟨s', hI, hμ, ha.sub hF, hw.sub hL⟩

/-- Ways that meet again: the code x comes to its end in states of the form (Fs s, Ls s), or leaves as Q says. -/
theorem c_cut {x y : Code} {σ : Type} (Fs : σ → List (Nat × Value)) (Ls : σ → List Ent) (I : σ → Prop)
    (h1 : St n D w0 F L (WC r P x (Exit.then (Meet n D w0 Fs Ls I) Q)))
    (h2 : ∀ s, I s → St n D w0 (Fs s) (Ls s) (WC r P y Q)) : St n D w0 F L (WC r P (.seq x y) Q) := by
  refine c_seq (h1.imp fun a w h => wpIn_mono h ?_)
  intro e a' w' hq
  cases e with
  | normal => obtain ⟨s, hI, ha, hw⟩ := hq; exact h2 s hI a' w' ha hw
  | _ => exact hq
theorem l_meet {σ : Type} {Fs : σ → List (Nat × Value)} {Ls : σ → List Ent} {I : σ → Prop} (s : σ) (hI : I s) (hF : FSub (Fs s) F) (hL : HSub (Ls s) L) :
    St n D w0 F L (Meet n D w0 Fs Ls I) :=
  fun _ _ ha hw => ⟨s, hI, ha.sub hF, hw.sub hL⟩

/-! ## a function's beginning and end -/
/-- The arguments in their slots. -/
inductive FArgs : Nat → List Value → List (Nat × Value) → Prop
  | nil {k : Nat} : FArgs k [] []
  | cons {k : Nat} {v : Value} {l : List Value} {F : List (Nat × Value)} : FArgs (k + 1) l F → FArgs k (v :: l) ((k, v) :: F)
theorem FArgs.lk {k : Nat} {l : List Value} {F : List (Nat × Value)} (h : FArgs k l F) : ∀ t v, lk F t = some v → k ≤ t ∧ l[t - k]? = some v := by
  induction h with
  | nil => intro t v h; simp [Sx.lk] at h
  | @cons k u l F _ ih =>
    intro t v h
    rw [lk_cons] at h
    by_cases e : k = t
    · subst e; simp at h; subst h; simp
    · simp [e] at h
      obtain ⟨h1, h2⟩ := ih t v h
      refine ⟨by omega, ?_⟩
      have : t - k = (t - (k + 1)) + 1 := by omega
      rw [this]; simpa using h2

theorem f_enter {f : FuncId} {fn : Func} {c : Code} {l : List Value} {w : World} {R : Ending → World → Prop} (hf : P.funcs[f]? = some fn) (hb : fn.body = some c) (hn : fn.ntmps = n) (hl : Nat.ble l.length n = true)
    (hF : FArgs 0 l F) (hw : Rep w w L) (h : St n [] w F L (WC none P c (bodyPost P fn R))) : Calls P f l.toArray w R := by
  refine calls_of_FR (callsIn_of_wp hf hb trivial (h _ _ ⟨?_, rfl, fun t v ht => ?_⟩ hw))
  · have := Nat.le_of_ble_eq_true hl
    simp [hn]; omega
  · obtain ⟨_, h2⟩ := hF.lk t v ht
    simp only [Nat.sub_zero] at h2
    have hlt := (List.getElem?_eq_some_iff.1 h2).1
    rw [Array.getElem?_append_left (by simpa using hlt)]
    simpa using h2

theorem f_enter0 {f : FuncId} {fn : Func} {c : Code} {w : World} {R : Ending → World → Prop} (hf : P.funcs[f]? = some fn) (hb : fn.body = some c) (hn : fn.ntmps = n) (hl : Nat.ble 0 n = true)
    (hw : Rep w w L) (h : St n [] w [] L (WC none P c (bodyPost P fn R))) : Calls P f #[] w R := f_enter (l := []) hf hb hn hl FArgs.nil hw h
theorem f_enter1 {f : FuncId} {fn : Func} {c : Code} {v0 : Value} {w : World} {R : Ending → World → Prop} (hf : P.funcs[f]? = some fn) (hb : fn.body = some c) (hn : fn.ntmps = n) (hl : Nat.ble 1 n = true)
    (hw : Rep w w L) (h : St n [] w [(0, v0)] L (WC none P c (bodyPost P fn R))) : Calls P f #[v0] w R := f_enter (l := [v0]) hf hb hn hl (.cons .nil) hw h
theorem f_enter2 {f : FuncId} {fn : Func} {c : Code} {v0 v1 : Value} {w : World} {R : Ending → World → Prop} (hf : P.funcs[f]? = some fn) (hb : fn.body = some c) (hn : fn.ntmps = n) (hl : Nat.ble 2 n = true)
    (hw : Rep w w L) (h : St n [] w [(0, v0), (1, v1)] L (WC none P c (bodyPost P fn R))) : Calls P f #[v0, v1] w R := f_enter (l := [v0, v1]) hf hb hn hl (.cons (.cons .nil)) hw h
theorem f_enter3 {f : FuncId} {fn : Func} {c : Code} {v0 v1 v2 : Value} {w : World} {R : Ending → World → Prop} (hf : P.funcs[f]? = some fn) (hb : fn.body = some c) (hn : fn.ntmps = n) (hl : Nat.ble 3 n = true)
    (hw : Rep w w L) (h : St n [] w [(0, v0), (1, v1), (2, v2)] L (WC none P c (bodyPost P fn R))) : Calls P f #[v0, v1, v2] w R := f_enter (l := [v0, v1, v2]) hf hb hn hl (.cons (.cons (.cons .nil))) hw h
theorem f_enter4 {f : FuncId} {fn : Func} {c : Code} {v0 v1 v2 v3 : Value} {w : World} {R : Ending → World → Prop} (hf : P.funcs[f]? = some fn) (hb : fn.body = some c) (hn : fn.ntmps = n) (hl : Nat.ble 4 n = true)
    (hw : Rep w w L) (h : St n [] w [(0, v0), (1, v1), (2, v2), (3, v3)] L (WC none P c (bodyPost P fn R))) : Calls P f #[v0, v1, v2, v3] w R := f_enter (l := [v0, v1, v2, v3]) hf hb hn hl (.cons (.cons (.cons (.cons .nil)))) hw h
theorem f_enter5 {f : FuncId} {fn : Func} {c : Code} {v0 v1 v2 v3 v4 : Value} {w : World} {R : Ending → World → Prop} (hf : P.funcs[f]? = some fn) (hb : fn.body = some c) (hn : fn.ntmps = n) (hl : Nat.ble 5 n = true)
    (hw : Rep w w L) (h : St n [] w [(0, v0), (1, v1), (2, v2), (3, v3), (4, v4)] L (WC none P c (bodyPost P fn R))) : Calls P f #[v0, v1, v2, v3, v4] w R := f_enter (l := [v0, v1, v2, v3, v4]) hf hb hn hl (.cons (.cons (.cons (.cons (.cons .nil))))) hw h
theorem f_enter6 {f : FuncId} {fn : Func} {c : Code} {v0 v1 v2 v3 v4 v5 : Value} {w : World} {R : Ending → World → Prop} (hf : P.funcs[f]? = some fn) (hb : fn.body = some c) (hn : fn.ntmps = n) (hl : Nat.ble 6 n = true)
    (hw : Rep w w L) (h : St n [] w [(0, v0), (1, v1), (2, v2), (3, v3), (4, v4), (5, v5)] L (WC none P c (bodyPost P fn R))) : Calls P f #[v0, v1, v2, v3, v4, v5] w R := f_enter (l := [v0, v1, v2, v3, v4, v5]) hf hb hn hl (.cons (.cons (.cons (.cons (.cons (.cons .nil)))))) hw h
theorem f_enter7 {f : FuncId} {fn : Func} {c : Code} {v0 v1 v2 v3 v4 v5 v6 : Value} {w : World} {R : Ending → World → Prop} (hf : P.funcs[f]? = some fn) (hb : fn.body = some c) (hn : fn.ntmps = n) (hl : Nat.ble 7 n = true)
    (hw : Rep w w L) (h : St n [] w [(0, v0), (1, v1), (2, v2), (3, v3), (4, v4), (5, v5), (6, v6)] L (WC none P c (bodyPost P fn R))) : Calls P f #[v0, v1, v2, v3, v4, v5, v6] w R := f_enter (l := [v0, v1, v2, v3, v4, v5, v6]) hf hb hn hl (.cons (.cons (.cons (.cons (.cons (.cons (.cons .nil))))))) hw h
theorem f_enter8 {f : FuncId} {fn : Func} {c : Code} {v0 v1 v2 v3 v4 v5 v6 v7 : Value} {w : World} {R : Ending → World → Prop} (hf : P.funcs[f]? = some fn) (hb : fn.body = some c) (hn : fn.ntmps = n) (hl : Nat.ble 8 n = true)
    (hw : Rep w w L) (h : St n [] w [(0, v0), (1, v1), (2, v2), (3, v3), (4, v4), (5, v5), (6, v6), (7, v7)] L (WC none P c (bodyPost P fn R))) : Calls P f #[v0, v1, v2, v3, v4, v5, v6, v7] w R := f_enter (l := [v0, v1, v2, v3, v4, v5, v6, v7]) hf hb hn hl (.cons (.cons (.cons (.cons (.cons (.cons (.cons (.cons .nil)))))))) hw h
theorem f_enter9 {f : FuncId} {fn : Func} {c : Code} {v0 v1 v2 v3 v4 v5 v6 v7 v8 : Value} {w : World} {R : Ending → World → Prop} (hf : P.funcs[f]? = some fn) (hb : fn.body = some c) (hn : fn.ntmps = n) (hl : Nat.ble 9 n = true)
    (hw : Rep w w L) (h : St n [] w [(0, v0), (1, v1), (2, v2), (3, v3), (4, v4), (5, v5), (6, v6), (7, v7), (8, v8)] L (WC none P c (bodyPost P fn R))) : Calls P f #[v0, v1, v2, v3, v4, v5, v6, v7, v8] w R := f_enter (l := [v0, v1, v2, v3, v4, v5, v6, v7, v8]) hf hb hn hl (.cons (.cons (.cons (.cons (.cons (.cons (.cons (.cons (.cons .nil))))))))) hw h

/-- Heap given as it lay. -/
theorem Rep.given1 {w : World} {b : Nat} {o : Obj} (h : w.heap[b]? = some o) : Rep w w [⟨b, o, false⟩] :=
  ⟨rfl, rfl, rfl, Nat.le_refl _, by simpa using h, by simp, by simp, fun _ _ _ => rfl⟩

/-- What lies in block b in every world of the state. -/
def Kn (w0 : World) (L : List Ent) (b : Nat) (o : Obj) : Prop := ∀ w, Rep w0 w L → w.heap[b]? = some o
theorem Kn.at {b : Nat} {o : Obj} (h : At L b o) : Kn w0 L b o := fun _ hw => hw.at h
theorem Kn.old {b : Nat} {o : Obj} (h : w0.heap[b]? = some o) (hl : L.all (·.own) = true) : Kn w0 L b o := fun w hw => by
  have hlt := (Array.getElem?_eq_some_iff.1 h).1
  rw [(hw.below (by simpa using hl)).block b hlt]; exact h
theorem Kn.oldA {b : Nat} {o : Obj} (h : w0.heap[b]? = some o) (hl : AO L) : Kn w0 L b o := fun w hw => by
  have hlt := (Array.getElem?_eq_some_iff.1 h).1
  rw [(hw.below hl).block b hlt]; exact h
/-- Block b is none of those that were handed to the call. -/
inductive Apart (b : Nat) : List Ent → Prop
  | nil : Apart b []
  | own {c : Nat} {o : Obj} {L : List Ent} : Apart b L → Apart b (⟨c, o, true⟩ :: L)
  | given {c : Nat} {o : Obj} {fl : Bool} {L : List Ent} : c ≠ b → Apart b L → Apart b (⟨c, o, fl⟩ :: L)
  | app {N L : List Ent} : (∀ x ∈ N, x.own = true) → Apart b L → Apart b (N ++ L)
theorem Apart.ne {b : Nat} {L : List Ent} (h : Apart b L) : ∀ x ∈ L, x.own = false → x.b ≠ b := by
  induction h with
  | nil => intro x hx; cases hx
  | own _ ih =>
    intro x hx ho
    rcases List.mem_cons.1 hx with rfl | hx
    · cases ho
    · exact ih x hx ho
  | given hne _ ih =>
    intro x hx ho
    rcases List.mem_cons.1 hx with rfl | hx
    · exact hne
    · exact ih x hx ho
  | app hN _ ih =>
    intro x hx ho
    rcases List.mem_append.1 hx with hx | hx
    · rw [hN x hx] at ho; cases ho
    · exact ih x hx ho
theorem Kn.apart {b : Nat} {o : Obj} (h : w0.heap[b]? = some o) (hl : Apart b L) : Kn w0 L b o := fun w hw => by
  have hlt := (Array.getElem?_eq_some_iff.1 h).1
  rw [hw.frame b hlt fun x hx e => ?_]; exact h
  cases ho : x.own with
  | true => have := hw.own x hx ho; omega
  | false => exact hl.ne x hx ho e
/-- Parts of a heap lie apart. -/
theorem Rep.apart {w : World} {G L0 : List Ent} {b : Nat} {o : Obj} (h : Rep w0 w (G ++ L0)) (ha : At L0 b o) : ∀ x ∈ G, x.b ≠ b := by
  have hnd := h.nd
  rw [List.map_append, List.nodup_append] at hnd
  obtain ⟨f, hf⟩ := ha.mem
  exact fun x hx => hnd.2.2 _ (List.mem_map.2 ⟨x, hx, rfl⟩) _ (List.mem_map.2 ⟨_, hf, rfl⟩)

end
end Go.Sx
