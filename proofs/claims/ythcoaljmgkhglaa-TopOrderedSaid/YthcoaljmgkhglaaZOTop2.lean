/- A part of the proofs of this seat: a small logic of walks, plain laws, and what some of the program's functions compute, shown by walks through their code. Conditions: the hypotheses that each theorem names. -/
import Derived.Test.YthcoaljmgkhglaaZOTop1
import Derived.WalkKit
import Derived.ProofKit
import Derived.OpenShut
import Derived.ShutString
import Derived.ChangeOld
import Derived.Below
import Derived.Scope
set_option linter.unusedSimpArgs false
set_option linter.unusedVariables false
set_option linter.unusedSectionVars false
namespace Go.Sx
open Go Go.RowKit
/-- No way out but the normal one. -/
def QF : Exit → Act → World → Prop := fun _ _ _ => False
section
variable {P : Program} {ops : Array Oper} {w0 : World} {L0 : List Ent}
theorem uponIn_imp {F : Fence} {n : Nat} {o : Oper} {a : Act} {K K' : Act → World → Prop} {Q Q' : Exit → Act → World → Prop} {x : Result Next} (hK : ∀ a w, K a w → K' a w) (hQ : ∀ e, e ≠ .normal → ∀ a w, Q e a w → Q' e a w)
    (h : o.uponIn F n P a K Q x) : o.uponIn F n P a K' Q' x := by
  have hL : LetsOut Q → LetsOut Q' := fun ⟨a, w, h⟩ => ⟨a, w, hQ _ (by simp) a w h⟩
  cases x with
  | ok y w' =>
    cases y <;> simp only [Oper.uponIn] at h ⊢ <;> first
      | exact hK _ _ h
      | exact ⟨h.1, CallsIn.mono h.2 (fun e w'' he => by cases e <;> first | exact hK _ _ he | exact hQ _ (by simp) _ _ he | exact hL he)⟩
      | exact ⟨h.1, RowsIn.mono h.2 (fun _ _ he => hK _ _ he)⟩
      | exact ⟨h.1, RoundIn.mono h.2 (fun e w'' he => by cases e <;> first | exact hK _ _ he | exact hQ _ (by simp) _ _ he | exact hL he)⟩
  | halt y w' => cases y <;> simp only [Oper.uponIn] at h ⊢ <;> first | exact hQ _ (by simp) _ _ h | exact h
theorem wpOp_imp {F : Fence} {n i : Nat} {a : Act} {w : World} {K K' : Act → World → Prop} {Q Q' : Exit → Act → World → Prop} (hK : ∀ a w, K a w → K' a w) (hQ : ∀ e, e ≠ .normal → ∀ a w, Q e a w → Q' e a w)
    (h : wpOpIn F n P ops Q i K a w) : wpOpIn F n P ops Q' i K' a w := by
  unfold wpOpIn at *
  cases ho : ops[i]? with
  | none => simp only [ho] at h ⊢; exact hK _ _ h
  | some o =>
    simp only [ho] at h ⊢
    split
    · rename_i hw
      rw [if_pos hw] at h
      exact ⟨h.1, uponIn_imp hK hQ h.2⟩
    · rename_i hw
      rw [if_neg hw] at h
      exact ⟨h.1, hK _ _ h.2⟩
/-- All orders; behind each operation the part L0 lies as it lay. -/
def wpAnyK (P : Program) (ops : Array Oper) (w0 : World) (L0 : List Ent) (Q : Act → World → Prop) : Nat → Array Bool → Act → World → Prop
  | 0, listed, a, w => Region.ready .any ops listed = [] ∧ Q a w
  | f + 1, listed, a, w => (Region.ready .any ops listed = [] → Q a w) ∧ ∀ i ∈ Region.ready .any ops listed, wpOpIn (FR none) 0 P ops QF i (fun a' w' => Rep w0 w' L0 ∧ wpAnyK P ops w0 L0 Q f (listed.setIfInBounds i true) a' w') a w
theorem wpAnyK_in {Q : Exit → Act → World → Prop} : ∀ (f : Nat) (listed : Array Bool) (a : Act) (w : World), wpAnyK P ops w0 L0 (Q .normal) f listed a w → wpAnyIn (FR none) 0 P .any ops Q f listed a w
  | 0, _, _, _, h => h
  | f + 1, listed, a, w, h => ⟨h.1, fun i hi => wpOp_imp (fun a' w' h' => wpAnyK_in f _ a' w' h'.2) (fun e _ a w h => h.elim) (h.2 i hi)⟩
/-- In every world where L0 lies it yields v, and leaves the world. -/
def YK (P : Program) (ops : Array Oper) (w0 : World) (L0 : List Ent) (o : Oper) (v : Value) (a : Act) : Prop :=
  (Region.wanted o (yielded ops a.tmps) = true ∧ nd o.op = true ∧ ∀ w, Rep w0 w L0 → (execOp a.eval o).run P w = .ok (.value v) w) ∨ (Region.wanted o (yielded ops a.tmps) = false ∧ v = undef)
theorem YK.same {o : Oper} {v : Value} {a a' : Act} (h : YK P ops w0 L0 o v a) (he : execOp a'.eval o = execOp a.eval o) (hw : Region.wanted o (yielded ops a'.tmps) = Region.wanted o (yielded ops a.tmps)) : YK P ops w0 L0 o v a' := by
  unfold YK at *; rw [he, hw]; exact h
theorem YK.op {i : Nat} {o : Oper} {v : Value} {a : Act} {w : World} {K : Act → World → Prop} (h : YK P ops w0 L0 o v a) (hi : ops[i]? = some o) (hw : Rep w0 w L0) (hK : K (a.put o.dst v) w) : wpOpIn (FR none) 0 P ops QF i K a w := by
  unfold wpOpIn
  simp only [hi]
  rcases h with ⟨h1, h2, h3⟩ | ⟨h1, rfl⟩
  · rw [if_pos h1]
    refine ⟨fun _ _ => trivial, ?_⟩
    rw [show o.semAt (FR none).round a.eval = execOp a.eval o from semAt_nd h2, h3 w hw]
    exact hK
  · rw [if_neg (by simp [h1])]
    exact ⟨fun _ _ => trivial, hK⟩
/-- An operation whose value is known ahead may come behind another that does not look at it. -/
theorem YK.swap {j : Nat} {oi oj : Oper} {v : Value} (hj : ops[j]? = some oj) (hap : oi.apart ops oj = true) (hsi : ∀ cs b, oi.op ≠ .select cs b) (hsj : ∀ cs b, oj.op ≠ .select cs b) {K : Act → World → Prop} {a : Act} {w : World}
    (hy : YK P ops w0 L0 oi v a) (h : wpOpIn (FR none) 0 P ops QF j K (a.put oi.dst v) w) : wpOpIn (FR none) 0 P ops QF j (fun a' w' => YK P ops w0 L0 oi v a' ∧ K (a'.put oi.dst v) w') a w := by
  obtain ⟨h1, h2, h3⟩ := Oper.apart_spec hap
  have hk : ∀ (b : Act), YK P ops w0 L0 oi v b → ∀ u, YK P ops w0 L0 oi v (b.put oj.dst u) := fun b hb u => hb.same (execOp_put oi hsi b oj.dst u h3) (wanted_put oi b oj.dst u h3)
  have hd : ∀ d, YK P ops w0 L0 oi v { a with defers := d :: a.defers } := fun d => hy.same rfl rfl
  have hc : ∀ u, (a.put oi.dst v).put oj.dst u = (a.put oj.dst u).put oi.dst v := fun u => Act.put_comm a v u h2
  unfold wpOpIn at *
  simp only [hj] at *
  rw [wanted_put oj a oi.dst v h1] at h
  split
  · rename_i hw
    rw [if_pos hw] at h
    refine ⟨fun _ _ => trivial, ?_⟩
    have h := h.2
    rw [show (FR none).round = none from rfl, Oper.semAt_none, execOp_put oj hsj a oi.dst v h1] at h
    rw [show (FR none).round = none from rfl, Oper.semAt_none]
    cases hr : (execOp a.eval oj).run P w with
    | ok x w' =>
      rw [hr] at h
      cases x <;> simp only [Oper.uponIn] at h ⊢
      case value u => rw [hc] at h; exact ⟨hk a hy u, h⟩
      case skip => rw [hc] at h; exact ⟨hk a hy _, h⟩
      case defer d =>
        refine ⟨hk _ (hd d) _, ?_⟩
        rw [← Act.put_comm _ v undef h2, ← Act.put_defers]
        exact h
      case enter f args =>
        refine ⟨h.1, CallsIn.mono h.2 fun e w2 he => ?_⟩
        cases e <;> first | (simp only [] at he ⊢; rw [hc] at he; exact ⟨hk a hy _, he⟩) | exact he
      case row r args => exact ⟨h.1, RowsIn.mono h.2 fun u w2 he => by rw [hc] at he; exact ⟨hk a hy _, he⟩⟩
      case round l f tmps asg body =>
        refine ⟨h.1, RoundIn.mono h.2 fun e w2 he => ?_⟩
        cases e <;> first | (simp only [] at he ⊢; rw [hc] at he; exact ⟨hk a hy _, he⟩) | exact he
    | halt x w' =>
      rw [hr] at h
      cases x <;> simp only [Oper.uponIn] at h ⊢ <;> exact h
  · rename_i hw
    rw [if_neg hw] at h
    refine ⟨fun _ _ => trivial, hk a hy _, ?_⟩
    rw [← hc]; exact h.2
theorem wpOpIn_with {i : Nat} {a : Act} {w : World} {K K' : Act → World → Prop} (h : wpOpIn (FR none) 0 P ops QF i K a w) (hK : ∀ a w, K a w → K' a w) : wpOpIn (FR none) 0 P ops QF i K' a w := wpOp_imp hK (fun _ _ _ _ h => h) h
theorem wpAnyK_first {i : Nat} {oi : Oper} {v : Value} {Q : Act → World → Prop} (hi : ops[i]? = some oi) (hsel : ∀ (j : Nat) (o : Oper) cs b, ops[j]? = some o → o.op ≠ .select cs b) :
    ∀ (f : Nat) (listed : Array Bool) (a : Act) (w : World), (∀ j oj, ops[j]? = some oj → j ≠ i → listed.getD j true = false → (∀ e ∈ oj.after, Region.binds .any e = true → e.on ≠ i) → oi.apart ops oj = true) →
      i ∈ Region.ready .any ops listed → Rep w0 w L0 → YK P ops w0 L0 oi v a → wpAnyK P ops w0 L0 Q f (listed.setIfInBounds i true) (a.put oi.dst v) w → wpAnyK P ops w0 L0 Q (f + 1) listed a w := by
  intro f
  induction f with
  | zero =>
    intro listed a w _ hr hw hy H
    refine ⟨fun h => (by rw [h] at hr; cases hr), fun j hj => ?_⟩
    by_cases hji : j = i
    · subst hji; exact hy.op hi hw ⟨hw, H⟩
    · have := ready_mono hj hji
      rw [H.1] at this
      cases this
  | succ f ih =>
    intro listed a w hfree hr hw hy H
    refine ⟨fun h => (by rw [h] at hr; cases hr), fun j hj => ?_⟩
    by_cases hji : j = i
    · subst hji; exact hy.op hi hw ⟨hw, H⟩
    · obtain ⟨hjun, oj, hoj, hall⟩ := mem_ready.1 hj
      have hnot : ∀ e ∈ oj.after, Region.binds .any e = true → e.on ≠ i := fun e he hb heq => by
        have h1 := hall e he hb
        have h0 := (mem_ready.1 hr).1
        rw [heq] at h1
        rw [getD_both h0] at h1
        cases h1
      have h2 := hy.swap hoj (hfree j oj hoj hji hjun hnot) (fun cs b => hsel i oi cs b hi) (fun cs b => hsel j oj cs b hoj) (H.2 j (ready_mono hj hji))
      refine wpOpIn_with h2 fun a' w' h3 => ⟨h3.2.1, ih (listed.setIfInBounds j true) a' w' (fun k ok hk hki hun hno => hfree k ok hk hki ?_ hno) (ready_mono hr (Ne.symm hji)) h3.2.1 h3.1 ?_⟩
      · by_cases hjk : j = k
        · subst hjk; exact hjun
        · rw [getD_set_ne true hjk] at hun; exact hun
      · rw [Array.setIfInBounds_comm _ _ hji]
        exact h3.2.2
end
/-! ## the walk's own judgement -/
def lstB (n m : Nat) : Array Bool := ((List.range n).map m.testBit).toArray
theorem lstB_set (n m k : Nat) : (lstB n m).setIfInBounds k true = lstB n (Nat.lor m (2 ^ k)) := by
  apply Array.ext
  · simp [lstB]
  · intro i h1 h2
    rw [Array.getElem_setIfInBounds (by simpa using h1)]
    have h3 : (Nat.lor m (2 ^ k)).testBit i = (m.testBit i || decide (k = i)) := by
      have : Nat.lor m (2 ^ k) = m ||| 2 ^ k := rfl
      rw [this, Nat.testBit_or, Nat.testBit_two_pow]
    simp only [lstB, List.getElem_toArray, List.getElem_map, List.getElem_range, h3]
    by_cases e : k = i
    · simp [e]
    · simp [e]
theorem lstB_zero (n : Nat) : Array.replicate n false = lstB n 0 := by
  apply Array.ext
  · simp [lstB]
  · intro i h1 h2
    simp [lstB]
def WB (P : Program) (l : List Oper) (w0 : World) (L0 : List Ent) (Q : Exit → Act → World → Prop) (f m : Nat) : Act → World → Prop :=
  fun a w => Rep w0 w L0 → wpAnyK P l.toArray w0 L0 (Q .normal) f (lstB l.length m) a w
def WF (P : Program) (l : List Oper) (w0 : World) (L0 : List Ent) (Q : Exit → Act → World → Prop) (f m : Nat) (o : Oper) : Act → World → Prop :=
  fun a w => Rep w0 w L0 → ∃ v, YK P l.toArray w0 L0 o v a ∧ wpAnyK P l.toArray w0 L0 (Q .normal) f (lstB l.length m) (a.put o.dst v) w
def QB (P : Program) (l : List Oper) (w0 : World) (L0 : List Ent) (Q : Exit → Act → World → Prop) (f m : Nat) : Exit → Act → World → Prop
  | .normal => fun a w => Rep w0 w L0 ∧ WB P l w0 L0 Q f m a w
  | _ => fun _ _ => False
def nthO : List Oper → Nat → Option Oper
  | [], _ => none
  | o :: _, 0 => some o
  | _ :: l, k + 1 => nthO l k
theorem nthO_eq : ∀ (l : List Oper) (k : Nat), nthO l k = l[k]?
  | [], _ => by simp [nthO]
  | o :: _, 0 => by simp [nthO]
  | _ :: l, k + 1 => by simp [nthO, nthO_eq l k]
def readyK (l : List Oper) (m : Nat) : List Nat := Region.ready .any l.toArray (lstB l.length m)
def pickB (l : List Oper) (m k : Nat) : Bool := Region.noSelect l.toArray && Region.free .any l.toArray (lstB l.length m) k && (readyK l m).contains k
section
variable {P : Program} {n : Nat} {D : List Deferred} {w0 : World} {F : List (Nat × Value)} {L L0 : List Ent} {Q : Exit → Act → World → Prop} {lq : List Oper} {fq mq : Nat} {ops : Array Oper}
variable {d : Tmp} {ty : TypeId} {pos : String} {af : Array Edge}
theorem c_regionK {id : Nat} {l : List Oper} (L0 : List Ent) (f : Nat) (hm : P.follows .mixedOrders = true) (hf : l.length = f) (hs : HSub L0 L) (h : St n D w0 F L (WB P l w0 L0 Q f 0)) : St n D w0 F L (WC none P (.region id l.toArray true) Q) := by
  intro a w ha hw
  show (Code.region id l.toArray true).wpIn (FR none) 0 P Q a w
  refine wpIn_region_any hm ?_
  have h1 := h a _ ha hw.drew (hw.drew.sub hs)
  have h2 := wpAnyK_in _ _ _ _ h1
  rw [← lstB_zero] at h2
  subst hf
  simpa using h2
theorem b_pick {m k m' : Nat} {o : Oper} (hk : pickB lq m k = true) (ho : nthO lq k = some o) (hm : Nat.lor m (2 ^ k) = m') (h : St n D w0 F L (WF P lq w0 L0 Q fq m' o)) : St n D w0 F L (WB P lq w0 L0 Q (fq + 1) m) := by
  intro a w ha hw h0
  simp only [pickB, Bool.and_eq_true] at hk
  obtain ⟨⟨h1, h2⟩, h3⟩ := hk
  obtain ⟨v, hy, hv⟩ := h a w ha hw h0
  rw [nthO_eq] at ho
  have hi : lq.toArray[k]? = some o := by simpa using ho
  refine wpAnyK_first hi (Region.noSelect_spec h1) fq _ a w (Region.free_spec hi h2) (by simpa [readyK] using h3) h0 hy ?_
  rw [lstB_set, hm]; exact hv
theorem wl_op {k m m' : Nat} {o : Oper} {a : Act} {w : World} (ho : nthO lq k = some o) (hm : Nat.lor m (2 ^ k) = m') (h : WL none P lq.toArray (QB P lq w0 L0 Q fq m') [o] a w) :
    wpOpIn (FR none) 0 P lq.toArray QF k (fun a' w' => Rep w0 w' L0 ∧ wpAnyK P lq.toArray w0 L0 (Q .normal) fq ((lstB lq.length m).setIfInBounds k true) a' w') a w := by
  rw [nthO_eq] at ho
  have hi : lq.toArray[k]? = some o := by simpa using ho
  have h' : wpListIn (FR none) 0 P lq.toArray (QB P lq w0 L0 Q fq m') [o] a w := h
  have hK : ∀ a' w', wpListIn (FR none) 0 P lq.toArray (QB P lq w0 L0 Q fq m') [] a' w' → Rep w0 w' L0 ∧ wpAnyK P lq.toArray w0 L0 (Q .normal) fq ((lstB lq.length m).setIfInBounds k true) a' w' := fun a' w' g => by
    have g' : Rep w0 w' L0 ∧ WB P lq w0 L0 Q fq m' a' w' := g
    rw [lstB_set, hm]
    exact ⟨g'.1, g'.2 g'.1⟩
  unfold wpOpIn
  simp only [hi]
  simp only [wpListIn] at h'
  split
  · rename_i hw
    rw [if_pos hw] at h'
    exact ⟨h'.1, uponIn_imp hK (fun e he a w g => by cases e <;> first | exact absurd rfl he | exact g) h'.2⟩
  · rename_i hw
    rw [if_neg hw] at h'
    exact ⟨h'.1, hK _ _ h'.2⟩
theorem b_split1 {m k1 m1 : Nat} {o1 : Oper} (hr : readyK lq m = [k1]) (ho1 : nthO lq k1 = some o1) (hm1 : Nat.lor m (2 ^ k1) = m1) (h1 : St n D w0 F L (WL none P lq.toArray (QB P lq w0 L0 Q fq m1) [o1])) : St n D w0 F L (WB P lq w0 L0 Q (fq + 1) m) := by
  intro a w ha hw h0
  refine ⟨fun h => (by rw [readyK] at hr; rw [hr] at h; cases h), fun i hi => ?_⟩
  rw [readyK] at hr
  rw [hr] at hi
  simp only [List.mem_cons, List.not_mem_nil, or_false] at hi
  subst hi
  exact wl_op ho1 hm1 (h1 a w ha hw)
theorem b_in (hs : HSub L0 L) (h : St n D w0 F L (WB P lq w0 L0 Q fq mq)) : St n D w0 F L (QB P lq w0 L0 Q fq mq .normal) := fun a w ha hw => ⟨hw.sub hs, h a w ha hw⟩
theorem b_done (hr : (readyK lq mq).isEmpty = true) (h : St n D w0 F L (Q .normal)) : St n D w0 F L (WB P lq w0 L0 Q 0 mq) := fun a w ha hw h0 => ⟨by rw [readyK] at hr; simpa using hr, h a w ha hw⟩
/-! ## operations that come at once -/
theorem b_val {op : Op} {v : Value} (hnd : nd op = true) (hd : Nat.ble (d + 1) n = true)
    (hv : ∀ a w, Fr n D F a → Rep w0 w L0 → (execOp a.eval ⟨some d, op, ty, pos, af, none⟩).run P w = .ok (.value v) w)
    (h : St n D w0 ((d, v) :: F) L (WB P lq w0 L0 Q fq mq)) : St n D w0 F L (WF P lq w0 L0 Q fq mq (⟨some d, op, ty, pos, af, none⟩)) :=
  fun a w ha hw h0 => ⟨v, .inl ⟨wanted_none rfl, hnd, fun w' h' => hv a w' ha h'⟩, h _ w (ha.put (Nat.le_of_ble_eq_true hd) v) hw h0⟩
end
end Go.Sx
namespace Go.Sx
open Go Go.RowKit
section
variable {P : Program}
variable {n : Nat} {D : List Deferred} {w0 : World} {F : List (Nat × Value)} {L : List Ent} {Q : Exit → Act → World → Prop} {L0 : List Ent} {lq : List Oper} {fq mq : Nat} {ops : Array Oper}
variable {d : Tmp} {ty : TypeId} {pos : String} {af : Array Edge} {rest : List Oper}
theorem b_move {x : Operand} {v : Value} (hx : ev F x = some v) (hd : Nat.ble (d + 1) n = true) (h : St n D w0 ((d, v) :: F) L (WB P lq w0 L0 Q fq mq)) :
    St n D w0 F L (WF P lq w0 L0 Q fq mq (⟨some d, .move x, ty, pos, af, none⟩)) :=
  b_val rfl hd (fun a w ha _ => by simp [execOp, ha.eval hx]) h
theorem b_assign {x : Operand} {v : Value} (hx : ev F x = some v) (hd : Nat.ble (d + 1) n = true) (h : St n D w0 ((d, v) :: F) L (WB P lq w0 L0 Q fq mq)) :
    St n D w0 F L (WF P lq w0 L0 Q fq mq (⟨some d, .assign x, ty, pos, af, none⟩)) :=
  b_val rfl hd (fun a w ha _ => by simp [execOp, ha.eval hx]) h
section
variable {x y : Operand} {k : IntKind} {m l : Int} {t u : TypeId} (hx : ev F x = some (.int k m)) (hy : ev F y = some (.int k l)) (hd : Nat.ble (d + 1) n = true)
include hx hy hd
end
section
variable {x y : Operand} {m l : Int} {t u : TypeId} (hx : ev F x = some (.int .i64 m)) (hy : ev F y = some (.int .i64 l)) (hd : Nat.ble (d + 1) n = true)
include hx hy hd
end
end
section
variable {P : Program} {n : Nat} {D : List Deferred} {w0 : World} {F : List (Nat × Value)} {L : List Ent} {Q : Exit → Act → World → Prop} {L0 : List Ent} {lq : List Oper} {fq mq : Nat} {ops : Array Oper}
variable {d : Tmp} {ty : TypeId} {pos : String} {af : Array Edge} {rest : List Oper}
theorem b_faddr0 {s : TypeId} {x : Operand} {i o b : Nat} [TF P s i o] (hx : ev F x = some (.pointer (some ⟨b, 0, none⟩))) (hd : Nat.ble (d + 1) n = true)
    (h : St n D w0 ((d, .pointer (some ⟨b, o, none⟩)) :: F) L (WB P lq w0 L0 Q fq mq)) : St n D w0 F L (WF P lq w0 L0 Q fq mq (⟨some d, .fieldAddr s x i, ty, pos, af, none⟩)) :=
  b_val rfl hd (fun a w ha _ => by simp [execOp, ha.eval hx, TF.h (P := P) (s := s) (i := i)]) h
theorem b_load1 {t e : TypeId} {x : Operand} {b off : Nat} {c : Array Value} {fz : Nat × Nat} {v : Value} [TA P t false] (hx : ev F x = some (.pointer (some ⟨b, off, none⟩))) (hk : Kn w0 L0 b (.cells c e fz)) (hv : c[off]? = some v)
    (hd : Nat.ble (d + 1) n = true) (h : St n D w0 ((d, v) :: F) L (WB P lq w0 L0 Q fq mq)) : St n D w0 F L (WF P lq w0 L0 Q fq mq (⟨some d, .load t x, ty, pos, af, none⟩)) :=
  b_val rfl hd (fun a w ha hw => by
    have hc : w.cell? ⟨b, off, none⟩ = some v := by simp [World.cell?, hk w hw, hv]
    simp [execOp, ha.eval hx, Instr.loadAt, Instr.sureAddr, loadVar, TA.h (P := P) (t := t), hc]) h
theorem b_load {t e : TypeId} {x : Operand} {b off : Nat} {l : List Value} {fz : Nat × Nat} {v : Value} (hA : TA P t false) (hx : ev F x = some (.pointer (some ⟨b, off, none⟩))) (hk : Kn w0 L0 b (.cells l.toArray e fz)) (hv : Nth l off v)
    (hd : Nat.ble (d + 1) n = true) (h : St n D w0 ((d, v) :: F) L (WB P lq w0 L0 Q fq mq)) : St n D w0 F L (WF P lq w0 L0 Q fq mq (⟨some d, .load t x, ty, pos, af, none⟩)) :=
  b_load1 hx hk (by simpa using hv.eq) hd h
end
section
variable {P : Program} {n : Nat} {D : List Deferred} {w0 : World} {F : List (Nat × Value)} {L : List Ent} {Q : Exit → Act → World → Prop} {L0 : List Ent} {lq : List Oper} {fq mq : Nat} {ops : Array Oper}
variable {d : Tmp} {ty : TypeId} {pos : String} {af : Array Edge} {rest : List Oper}
variable {fn : Func} {R : Ending → World → Prop}
end
section
variable {P : Program} {n : Nat} {D : List Deferred} {w0 : World} {F : List (Nat × Value)} {L : List Ent} {Q : Exit → Act → World → Prop} {L0 : List Ent} {lq : List Oper} {fq mq : Nat} {ops : Array Oper}
variable {d : Tmp} {ty : TypeId} {pos : String} {af : Array Edge} {rest : List Oper}
end
section
variable {P : Program} {n : Nat} {D : List Deferred} {w0 : World} {F : List (Nat × Value)} {L L' : List Ent} {Q : Exit → Act → World → Prop} {L0 : List Ent} {lq : List Oper} {fq mq : Nat} {ops : Array Oper}
variable {d : Tmp} {ty : TypeId} {pos : String} {af : Array Edge} {rest : List Oper}
end
section
variable {P : Program} {n : Nat} {D : List Deferred} {w0 : World} {F : List (Nat × Value)} {L : List Ent} {Q : Exit → Act → World → Prop} {L0 : List Ent} {lq : List Oper} {fq mq : Nat} {ops : Array Oper}
variable {d : Tmp} {ty : TypeId} {pos : String} {af : Array Edge} {rest : List Oper}
end
end Go.Sx
namespace Go.Sx
open Go Go.RowKit
section
variable {P : Program}
variable {n : Nat} {D : List Deferred} {w0 : World} {F : List (Nat × Value)} {L : List Ent} {J J1 : Made} {Φ : Specs} {X : Act → World → Prop} {kq : Nat} {ops : Array Oper}
variable {d : Tmp} {ty : TypeId} {pos : String} {af : Array Edge} {rest : List Oper}
theorem q_move {x : Operand} {v : Value} (hx : ev F x = some v) (hd : Nat.ble (d + 1) n = true) (h : St n D w0 ((d, v) :: F) L (WQ P ops w0 L Φ X (kq + 1) J rest)) :
    St n D w0 F L (WQ P ops w0 L Φ X kq J (⟨some d, .move x, ty, pos, af, none⟩ :: rest)) :=
  q_free rfl hd (fun a w ha _ => by simp [execOp, ha.eval hx]) h
theorem q_assign {x : Operand} {v : Value} (hx : ev F x = some v) (hd : Nat.ble (d + 1) n = true) (h : St n D w0 ((d, v) :: F) L (WQ P ops w0 L Φ X (kq + 1) J rest)) :
    St n D w0 F L (WQ P ops w0 L Φ X kq J (⟨some d, .assign x, ty, pos, af, none⟩ :: rest)) :=
  q_free rfl hd (fun a w ha _ => by simp [execOp, ha.eval hx]) h
theorem q_pick_t {c x y : Operand} {b : Bool} {v : Value} (hc : ev F c = some (.bool b)) (hb : b = true) (hx : ev F x = some v) (hd : Nat.ble (d + 1) n = true) (h : St n D w0 ((d, v) :: F) L (WQ P ops w0 L Φ X (kq + 1) J rest)) :
    St n D w0 F L (WQ P ops w0 L Φ X kq J (⟨some d, .pick c x y, ty, pos, af, none⟩ :: rest)) :=
  q_free rfl hd (fun a w ha _ => by subst hb; simp [execOp, ha.eval hx, ha.eval hc, asBool]) h
theorem q_pick_f {c x y : Operand} {b : Bool} {v : Value} (hc : ev F c = some (.bool b)) (hb : b = false) (hy : ev F y = some v) (hd : Nat.ble (d + 1) n = true) (h : St n D w0 ((d, v) :: F) L (WQ P ops w0 L Φ X (kq + 1) J rest)) :
    St n D w0 F L (WQ P ops w0 L Φ X kq J (⟨some d, .pick c x y, ty, pos, af, none⟩ :: rest)) :=
  q_free rfl hd (fun a w ha _ => by subst hb; simp [execOp, ha.eval hy, ha.eval hc, asBool]) h
theorem q_not {x : Operand} {b : Bool} {t : TypeId} (hx : ev F x = some (.bool b)) (hd : Nat.ble (d + 1) n = true) (h : St n D w0 ((d, .bool !b) :: F) L (WQ P ops w0 L Φ X (kq + 1) J rest)) :
    St n D w0 F L (WQ P ops w0 L Φ X kq J (⟨some d, .unOp .not t x, ty, pos, af, none⟩ :: rest)) :=
  q_free rfl hd (fun a w ha _ => by simp [execOp, ha.eval hx, Op.unary]) h
theorem q_not_d {x : Operand} {p : Prop} {_ : Decidable p} {t : TypeId} (hx : ev F x = some (.bool (decide p))) (hd : Nat.ble (d + 1) n = true) (h : St n D w0 ((d, .bool (decide (¬ p))) :: F) L (WQ P ops w0 L Φ X (kq + 1) J rest)) :
    St n D w0 F L (WQ P ops w0 L Φ X kq J (⟨some d, .unOp .not t x, ty, pos, af, none⟩ :: rest)) :=
  q_not hx hd (by rw [← decide_not]; exact h)
section
variable {x y : Operand} {k : IntKind} {m l : Int} {t u : TypeId} (hx : ev F x = some (.int k m)) (hy : ev F y = some (.int k l)) (hd : Nat.ble (d + 1) n = true)
include hx hy hd
theorem q_lss (h : St n D w0 ((d, .bool (decide (m < l))) :: F) L (WQ P ops w0 L Φ X (kq + 1) J rest)) : St n D w0 F L (WQ P ops w0 L Φ X kq J (⟨some d, .binOp .lss t x y u, ty, pos, af, none⟩ :: rest)) :=
  q_free rfl hd (fun a w ha _ => by simp [execOp, ha.eval hx, ha.eval hy, eqGuard, binOp, Op.intCmp]) h
theorem q_gtr (h : St n D w0 ((d, .bool (decide (m > l))) :: F) L (WQ P ops w0 L Φ X (kq + 1) J rest)) : St n D w0 F L (WQ P ops w0 L Φ X kq J (⟨some d, .binOp .gtr t x y u, ty, pos, af, none⟩ :: rest)) :=
  q_free rfl hd (fun a w ha _ => by simp [execOp, ha.eval hx, ha.eval hy, eqGuard, binOp, Op.intCmp]) h
theorem q_geq (h : St n D w0 ((d, .bool (decide (m ≥ l))) :: F) L (WQ P ops w0 L Φ X (kq + 1) J rest)) : St n D w0 F L (WQ P ops w0 L Φ X kq J (⟨some d, .binOp .geq t x y u, ty, pos, af, none⟩ :: rest)) :=
  q_free rfl hd (fun a w ha _ => by simp [execOp, ha.eval hx, ha.eval hy, eqGuard, binOp, Op.intCmp]) h
theorem q_neq (h : St n D w0 ((d, .bool (decide (m ≠ l))) :: F) L (WQ P ops w0 L Φ X (kq + 1) J rest)) : St n D w0 F L (WQ P ops w0 L Φ X kq J (⟨some d, .binOp .neq t x y u, ty, pos, af, none⟩ :: rest)) :=
  q_free rfl hd (fun a w ha _ => by simp [execOp, ha.eval hx, ha.eval hy, eqGuard, binOp, Op.intCmp, bne, decide_not]; rfl) h
theorem q_add_w (h : St n D w0 ((d, .int k (k.wrap (m + l))) :: F) L (WQ P ops w0 L Φ X (kq + 1) J rest)) : St n D w0 F L (WQ P ops w0 L Φ X kq J (⟨some d, .binOp .add t x y u, ty, pos, af, none⟩ :: rest)) :=
  q_free rfl hd (fun a w ha _ => by simp [execOp, ha.eval hx, ha.eval hy, eqGuard, binOp, Op.intArith]) h
theorem q_sub_w (h : St n D w0 ((d, .int k (k.wrap (m - l))) :: F) L (WQ P ops w0 L Φ X (kq + 1) J rest)) : St n D w0 F L (WQ P ops w0 L Φ X kq J (⟨some d, .binOp .sub t x y u, ty, pos, af, none⟩ :: rest)) :=
  q_free rfl hd (fun a w ha _ => by simp [execOp, ha.eval hx, ha.eval hy, eqGuard, binOp, Op.intArith]) h
theorem q_mul_w (h : St n D w0 ((d, .int k (k.wrap (m * l))) :: F) L (WQ P ops w0 L Φ X (kq + 1) J rest)) : St n D w0 F L (WQ P ops w0 L Φ X kq J (⟨some d, .binOp .mul t x y u, ty, pos, af, none⟩ :: rest)) :=
  q_free rfl hd (fun a w ha _ => by simp [execOp, ha.eval hx, ha.eval hy, eqGuard, binOp, Op.intArith]) h
theorem q_quo_w (hl : l ≠ 0) (h : St n D w0 ((d, .int k (k.wrap (m.tdiv l))) :: F) L (WQ P ops w0 L Φ X (kq + 1) J rest)) : St n D w0 F L (WQ P ops w0 L Φ X kq J (⟨some d, .binOp .quo t x y u, ty, pos, af, none⟩ :: rest)) :=
  q_free rfl hd (fun a w ha _ => by simp [execOp, ha.eval hx, ha.eval hy, eqGuard, binOp, Op.intDiv, hl]) h
theorem q_rem_w (hl : l ≠ 0) (h : St n D w0 ((d, .int k (m.tmod l)) :: F) L (WQ P ops w0 L Φ X (kq + 1) J rest)) : St n D w0 F L (WQ P ops w0 L Φ X kq J (⟨some d, .binOp .rem t x y u, ty, pos, af, none⟩ :: rest)) :=
  q_free rfl hd (fun a w ha _ => by simp [execOp, ha.eval hx, ha.eval hy, eqGuard, binOp, Op.intDiv, hl]) h
end
section
variable {x y : Operand} {m l : Int} {t u : TypeId} (hx : ev F x = some (.int .i64 m)) (hy : ev F y = some (.int .i64 l)) (hd : Nat.ble (d + 1) n = true)
include hx hy hd
theorem q_add (hr : -9223372036854775808 ≤ m + l ∧ m + l ≤ 9223372036854775807) (h : St n D w0 ((d, .int .i64 (m + l)) :: F) L (WQ P ops w0 L Φ X (kq + 1) J rest)) : St n D w0 F L (WQ P ops w0 L Φ X kq J (⟨some d, .binOp .add t x y u, ty, pos, af, none⟩ :: rest)) :=
  q_add_w hx hy hd (by rw [wrap_in hr.1 hr.2]; exact h)
theorem q_sub (hr : -9223372036854775808 ≤ m - l ∧ m - l ≤ 9223372036854775807) (h : St n D w0 ((d, .int .i64 (m - l)) :: F) L (WQ P ops w0 L Φ X (kq + 1) J rest)) : St n D w0 F L (WQ P ops w0 L Φ X kq J (⟨some d, .binOp .sub t x y u, ty, pos, af, none⟩ :: rest)) :=
  q_sub_w hx hy hd (by rw [wrap_in hr.1 hr.2]; exact h)
theorem q_mul (hr : -9223372036854775808 ≤ m * l ∧ m * l ≤ 9223372036854775807) (h : St n D w0 ((d, .int .i64 (m * l)) :: F) L (WQ P ops w0 L Φ X (kq + 1) J rest)) : St n D w0 F L (WQ P ops w0 L Φ X kq J (⟨some d, .binOp .mul t x y u, ty, pos, af, none⟩ :: rest)) :=
  q_mul_w hx hy hd (by rw [wrap_in hr.1 hr.2]; exact h)
theorem q_quo (hr : 0 ≤ m ∧ 0 < l ∧ m ≤ 9223372036854775807) (h : St n D w0 ((d, .int .i64 (m / l)) :: F) L (WQ P ops w0 L Φ X (kq + 1) J rest)) : St n D w0 F L (WQ P ops w0 L Φ X kq J (⟨some d, .binOp .quo t x y u, ty, pos, af, none⟩ :: rest)) :=
  q_quo_w hx hy hd (by omega) (by
    have h1 : m.tdiv l = m / l := Int.tdiv_eq_ediv_of_nonneg hr.1
    have h2 : 0 ≤ m / l := Int.ediv_nonneg hr.1 (by omega)
    have h3 : m / l ≤ m := Int.ediv_le_self l hr.1
    rw [h1, wrap_in (by omega) (by omega)]; exact h)
theorem q_rem (hr : 0 ≤ m ∧ 0 < l) (h : St n D w0 ((d, .int .i64 (m % l)) :: F) L (WQ P ops w0 L Φ X (kq + 1) J rest)) : St n D w0 F L (WQ P ops w0 L Φ X kq J (⟨some d, .binOp .rem t x y u, ty, pos, af, none⟩ :: rest)) :=
  q_rem_w hx hy hd (by omega) (by rw [Int.tmod_eq_emod_of_nonneg hr.1]; exact h)
end
theorem q_conv {x : Operand} {k k' : IntKind} {m : Int} {s t : TypeId} {ds : TypeDesc} [TU P s ds] [TU P t (.int k')] (hx : ev F x = some (.int k m)) (hΦ : Φ kq = none) (hJ : SubJ ((anc ops).getD kq 0) J1 J) (hd : Nat.ble (d + 1) n = true)
    (h : St n D w0 ((d, .int k' (k'.wrap m)) :: F) L (WQ P ops w0 L Φ X (kq + 1) J rest)) : St n D w0 F L (WQ P ops w0 L Φ X kq J (⟨some d, .convert s t x, ty, pos, af, none⟩ :: rest)) :=
  q_val rfl hd hΦ hJ (fun a w ha _ => by
    simp [execOp, ha.eval hx, convert, run_under (TU.h (P := P) (t := t)), run_under (TU.h (P := P) (t := s)), Conv.intToInt]) h
end
section
variable {P : Program} {n : Nat} {D : List Deferred} {w0 : World} {F : List (Nat × Value)} {L : List Ent} {J J1 : Made} {Φ : Specs} {X : Act → World → Prop} {kq : Nat} {ops : Array Oper}
variable {d : Tmp} {ty : TypeId} {pos : String} {af : Array Edge} {rest : List Oper}
theorem q_faddr0 {s : TypeId} {x : Operand} {i o b : Nat} [TF P s i o] (hx : ev F x = some (.pointer (some ⟨b, 0, none⟩))) (hd : Nat.ble (d + 1) n = true)
    (h : St n D w0 ((d, .pointer (some ⟨b, o, none⟩)) :: F) L (WQ P ops w0 L Φ X (kq + 1) J rest)) : St n D w0 F L (WQ P ops w0 L Φ X kq J (⟨some d, .fieldAddr s x i, ty, pos, af, none⟩ :: rest)) :=
  q_free rfl hd (fun a w ha _ => by simp [execOp, ha.eval hx, TF.h (P := P) (s := s) (i := i)]) h
theorem q_faddr {s : TypeId} {x : Operand} {i o b off : Nat} [TF P s i o] (hx : ev F x = some (.pointer (some ⟨b, off, none⟩))) (hd : Nat.ble (d + 1) n = true)
    (h : St n D w0 ((d, .pointer (some ⟨b, off + o, none⟩)) :: F) L (WQ P ops w0 L Φ X (kq + 1) J rest)) : St n D w0 F L (WQ P ops w0 L Φ X kq J (⟨some d, .fieldAddr s x i, ty, pos, af, none⟩ :: rest)) :=
  q_free rfl hd (fun a w ha _ => by simp [execOp, ha.eval hx, TF.h (P := P) (s := s) (i := i)]) h
theorem q_nilCheck {x : Operand} {p : Addr} (hx : ev F x = some (.pointer (some p))) (hΦ : Φ kq = none) (hJ : SubJ ((anc ops).getD kq 0) J1 J) (hd : Nat.ble (d + 1) n = true)
    (h : St n D w0 ((d, .pointer (some p)) :: F) L (WQ P ops w0 L Φ X (kq + 1) J rest)) : St n D w0 F L (WQ P ops w0 L Φ X kq J (⟨some d, .nilCheck x, ty, pos, af, none⟩ :: rest)) :=
  q_val rfl hd hΦ hJ (fun a w ha _ => by simp [execOp, ha.eval hx]) h
theorem q_load1 {t e : TypeId} {x : Operand} {b off : Nat} {c : Array Value} {fz : Nat × Nat} {v : Value} [TA P t false] (hx : ev F x = some (.pointer (some ⟨b, off, none⟩))) (hΦ : Φ kq = none) (hJ : SubJ ((anc ops).getD kq 0) J1 J) (hk : Kn w0 (ents J1 L) b (.cells c e fz)) (hv : c[off]? = some v)
    (hd : Nat.ble (d + 1) n = true) (h : St n D w0 ((d, v) :: F) L (WQ P ops w0 L Φ X (kq + 1) J rest)) : St n D w0 F L (WQ P ops w0 L Φ X kq J (⟨some d, .load t x, ty, pos, af, none⟩ :: rest)) :=
  q_val rfl hd hΦ hJ (fun a w ha hw => by
    have hc : w.cell? ⟨b, off, none⟩ = some v := by simp [World.cell?, hk w hw, hv]
    simp [execOp, ha.eval hx, Instr.loadAt, Instr.sureAddr, loadVar, TA.h (P := P) (t := t), hc]) h
theorem q_load {t e : TypeId} {x : Operand} {b off : Nat} {l : List Value} {fz : Nat × Nat} {v : Value} (hA : TA P t false) (hx : ev F x = some (.pointer (some ⟨b, off, none⟩))) (hΦ : Φ kq = none) (hJ : SubJ ((anc ops).getD kq 0) J1 J) (hk : Kn w0 (ents J1 L) b (.cells l.toArray e fz)) (hv : Nth l off v)
    (hd : Nat.ble (d + 1) n = true) (h : St n D w0 ((d, v) :: F) L (WQ P ops w0 L Φ X (kq + 1) J rest)) : St n D w0 F L (WQ P ops w0 L Φ X kq J (⟨some d, .load t x, ty, pos, af, none⟩ :: rest)) :=
  q_load1 hx hΦ hJ hk (by simpa using hv.eq) hd h
theorem q_loadN {t e : TypeId} {k : Nat} {x : Operand} {b off : Nat} {c : Array Value} {fz : Nat × Nat} {l : List Value} [TA P t true] [TS P t k] (hx : ev F x = some (.pointer (some ⟨b, off, none⟩))) (hΦ : Φ kq = none) (hJ : SubJ ((anc ops).getD kq 0) J1 J) (hk : Kn w0 (ents J1 L) b (.cells c e fz))
    (hl : l.length = k) (hv : ∀ j v, l[j]? = some v → c[off + j]? = some v)
    (hd : Nat.ble (d + 1) n = true) (h : St n D w0 ((d, .agg l.toArray) :: F) L (WQ P ops w0 L Φ X (kq + 1) J rest)) : St n D w0 F L (WQ P ops w0 L Φ X kq J (⟨some d, .load t x, ty, pos, af, none⟩ :: rest)) :=
  q_val rfl hd hΦ hJ (fun a w ha hw => by
    subst hl
    have hc := run_loadCells_list (P := P) w ⟨b, off, none⟩ l (fun j v hj => by rw [add_none]; simp [World.cell?, hk w hw, hv j v hj])
    simp [execOp, ha.eval hx, Instr.loadAt, Instr.sureAddr, loadVar, TA.h (P := P) (t := t), TS.h (P := P) (t := t), hc]) h
theorem q_loadAll {t e : TypeId} {k : Nat} {x : Operand} {b : Nat} {l : List Value} {fz : Nat × Nat} (hA : TA P t true) (hS : TS P t k) (hx : ev F x = some (.pointer (some ⟨b, 0, none⟩))) (hΦ : Φ kq = none) (hJ : SubJ ((anc ops).getD kq 0) J1 J) (hk : Kn w0 (ents J1 L) b (.cells l.toArray e fz))
    (hl : l.length = k) (hd : Nat.ble (d + 1) n = true) (h : St n D w0 ((d, .agg l.toArray) :: F) L (WQ P ops w0 L Φ X (kq + 1) J rest)) : St n D w0 F L (WQ P ops w0 L Φ X kq J (⟨some d, .load t x, ty, pos, af, none⟩ :: rest)) :=
  q_loadN hx hΦ hJ hk hl (fun j v hj => by simpa using hj) hd h
end
section
variable {P : Program} {n : Nat} {D : List Deferred} {w0 : World} {F : List (Nat × Value)} {L : List Ent} {J J1 : Made} {Φ : Specs} {X : Act → World → Prop} {kq : Nat} {ops : Array Oper}
variable {d : Tmp} {ty : TypeId} {pos : String} {af : Array Edge} {rest : List Oper}
theorem q_build {t : TypeId} {pl : List (Nat × Nat)} {xs : List (Nat × Operand)} {vs : List (Nat × Value)} {z : Value} {zl out : List Value} (hP : TPl P t pl) (hZ : TZ P t z zl) (hxs : Parts F xs vs)
    (hf : Fill (fun i : Nat => pl[i]?) zl vs out) (hd : Nat.ble (d + 1) n = true) (h : St n D w0 ((d, .agg out.toArray) :: F) L (WQ P ops w0 L Φ X (kq + 1) J rest)) :
    St n D w0 F L (WQ P ops w0 L Φ X kq J (⟨some d, .build t xs.toArray, ty, pos, af, none⟩ :: rest)) :=
  q_free rfl hd (fun a w ha _ => by
    obtain ⟨fs, hu, hm⟩ := TPl.h (P := P) (t := t) (pl := pl)
    have hxs' := hxs.map ha
    have e1 : xs.toArray.map (fun x => match x with | (i, x) => (i, a.eval x)) = vs.toArray := by rw [← hxs']; simp
    have hfe := hf.eq
    have e2 : (fun i : Nat => pl.toArray[i]?) = (fun i : Nat => pl[i]?) := by funext i; simp
    simp only [execOp, e1, Instr.build, Sem.run_bind, TZ.h (P := P) (t := t), Result.andThen_ok, run_under hu, hm, TZ.hc (P := P) (t := t)]
    rw [show (fun x : Nat => pl.toArray[x]?) = (fun i : Nat => pl[i]?) from e2]
    rw [hfe]
    rfl) h
theorem q_len {t e : TypeId} {x : Operand} {a0 : Option Addr} {len cap : Nat} (hU : TU P t (.slice e)) (hx : ev F x = some (.slice a0 len cap)) (hΦ : Φ kq = none) (hJ : SubJ ((anc ops).getD kq 0) J1 J) (hd : Nat.ble (d + 1) n = true)
    (h : St n D w0 ((d, .int .i64 len) :: F) L (WQ P ops w0 L Φ X (kq + 1) J rest)) : St n D w0 F L (WQ P ops w0 L Φ X kq J (⟨some d, .call ⟨.builtin .len, #[x], #[t]⟩, ty, pos, af, none⟩ :: rest)) :=
  q_val rfl hd hΦ hJ (fun a w ha _ => by simp [execOp, resolve, invoke, builtin, Builtin.len_, ha.eval hx, run_under (TU.h (P := P) (t := t)), goInt]) h
variable {fn : Func} {R : Ending → World → Prop}
end
section
variable {P : Program} {n : Nat} {D : List Deferred} {w0 : World} {F : List (Nat × Value)} {L : List Ent} {J J1 : Made} {Φ : Specs} {X : Act → World → Prop} {kq : Nat} {ops : Array Oper}
variable {d : Tmp} {ty : TypeId} {pos : String} {af : Array Edge} {rest : List Oper}
theorem q_loadC {t e : TypeId} {x : Operand} {b off : Nat} {c : Array Value} {fz : Nat × Nat} {v : Value} (hA : TA P t false) (hx : ev F x = some (.pointer (some ⟨b, off, none⟩))) (hΦ : Φ kq = none) (hJ : SubJ ((anc ops).getD kq 0) J1 J) (hk : Kn w0 (ents J1 L) b (.cells c e fz)) (hv : c[off]? = some v)
    (hd : Nat.ble (d + 1) n = true) (h : St n D w0 ((d, v) :: F) L (WQ P ops w0 L Φ X (kq + 1) J rest)) : St n D w0 F L (WQ P ops w0 L Φ X kq J (⟨some d, .load t x, ty, pos, af, none⟩ :: rest)) := q_load1 hx hΦ hJ hk hv hd h
theorem q_idx {t e : TypeId} {k m : Nat} {x y : Operand} {b off len cap : Nat} {kk : IntKind} {i : Int} (hU : TU P t (.slice e)) (hS : TS P e k) (hx : ev F x = some (.slice (some ⟨b, off, none⟩) len cap)) (hy : ev F y = some (.int kk i)) (hm : i = (m : Int)) (hd : Nat.ble (d + 1) n = true)
    (hi : m < len) (h : St n D w0 ((d, .pointer (some ⟨b, off + m * k, none⟩)) :: F) L (WQ P ops w0 L Φ X (kq + 1) J rest)) : St n D w0 F L (WQ P ops w0 L Φ X kq J (⟨some d, .indexAddr t x y, ty, pos, af, none⟩ :: rest)) :=
  q_free rfl hd (fun a w ha _ => by
    subst hm
    simp [execOp, ha.eval hx, ha.eval hy, Instr.indexAt, asIntOf, run_under (TU.h (P := P) (t := t)), hi, TS.h (P := P) (t := e), add_none]) h
end
section
variable {P : Program} {n : Nat} {D : List Deferred} {w0 : World} {F : List (Nat × Value)} {L L' : List Ent} {J J1 : Made} {Φ : Specs} {X : Act → World → Prop} {kq : Nat} {ops : Array Oper}
variable {d : Tmp} {ty : TypeId} {pos : String} {af : Array Edge} {rest : List Oper}
end
section
variable {P : Program} {n : Nat} {D : List Deferred} {w0 : World} {F : List (Nat × Value)} {L : List Ent} {J J1 : Made} {Φ : Specs} {X : Act → World → Prop} {kq : Nat} {ops : Array Oper}
variable {d : Tmp} {ty : TypeId} {pos : String} {af : Array Edge} {rest : List Oper}
end
end Go.Sx
namespace Go.Sx
open Go Go.RowKit
/-- The cells read as data at the type. -/
def Rd {H : Type} (enc : TypeId × Value → H) (P : Program) (w : World) (t : TypeId) (cs : List Value) : Prop := ∃ fuel x, DataW.trod enc P w 0 (fun _ => true) true fuel t cs = some x
section
variable {H : Type} {enc : TypeId × Value → H} {P : Program} {w : World} {t : TypeId} {cs : List Value}
theorem Rd.of {v : Value} {d : DataW H} {ps : List MemPlace} (h : DataW.Trod enc P w 0 (fun _ => true) true t v d ps) : Rd enc P w t v.cells.toList := h.elim fun f h => ⟨f, _, h⟩
theorem Rd.lt {v : Value} {d : DataW H} {ps : List MemPlace} (h : DataW.Trod enc P w 0 (fun _ => true) true t v d ps) : ∀ x ∈ ps, x.block < w.heap.size := by obtain ⟨m, hm⟩ := h; exact DataW.trod_lt m _ _ _ hm
theorem Rd.int {k : IntKind} (ht : P.underlying t = some (.int k)) (h : Rd enc P w t cs) : ∃ n, cs = [.int k n] ∧ (Lit.int k n).wf = true := by
  obtain ⟨f, x, h⟩ := h
  obtain ⟨n, h1, _, h2⟩ := DataW.trod_int ht h
  exact ⟨n, h1, h2⟩
theorem Rd.bool (ht : P.underlying t = some .bool) (h : Rd enc P w t cs) : ∃ b, cs = [.bool b] := by
  obtain ⟨f, x, h⟩ := h
  obtain ⟨n, h1, _⟩ := DataW.trod_bool ht h
  exact ⟨n, h1⟩
theorem Rd.string (ht : P.underlying t = some .string) (h : Rd enc P w t cs) : ∃ s : ByteArray, cs = [.string s] ∧ s.size ≤ maxLen := by
  obtain ⟨f, x, h⟩ := h
  obtain ⟨n, h1, _, h2⟩ := DataW.trod_string ht h
  exact ⟨n, h1, h2⟩
theorem Rd.struct {fs : Array Field} (ht : P.underlying t = some (.struct fs)) (h : Rd enc P w t cs) : cs.length = P.cellsOf t ∧ ∀ (i : Nat) (f : Field), fs[i]? = some f → Rd enc P w f.type ((cs.drop f.offset).take (P.cellsOf f.type)) := by
  obtain ⟨f, x, h⟩ := h
  obtain ⟨xs, n, _, _, hl, hlen, hf⟩ := DataW.trod_struct ht h
  refine ⟨hl, fun i f hi => ?_⟩
  have hlt : i < xs.length := by rw [hlen]; exact (Array.getElem?_eq_some_iff.1 hi).1
  exact ⟨n, xs[i], by rw [hf i f hi]; exact List.getElem?_eq_getElem hlt⟩
/-- The cells of a row of n places. -/
theorem cells_get {a : Addr} {n : Nat} {l : List Value} (h : w.cells? 0 a n = some l) : l.length = n ∧ ∀ j v, l[j]? = some v → w.cell? (a.add j) = some v := by
  simp only [World.cells?, Nat.zero_le, if_true] at h
  have h1 := mapM_some_length h
  have h2 : l.length = n := by simpa using h1
  refine ⟨h2, fun j v hj => ?_⟩
  have hlt := (List.getElem?_eq_some_iff.1 hj).1
  have := mapM_some_get h j j (by rw [List.getElem?_range (by omega)])
  rw [this]; exact hj
theorem Rd.slice {e : TypeId} {k : Nat} (ht : P.underlying t = some (.slice e)) (hk : P.cellsOf e = k) (h : Rd enc P w t cs) : cs = [.slice none 0 0] ∨
    ∃ (a : Addr) (len cap : Nat), cs = [.slice (some a) len cap] ∧ len ≤ cap ∧ cap ≤ maxLen ∧ ∀ i, i < cap → ∃ l, w.cells? 0 (a.add (i * k)) k = some l ∧ Rd enc P w e l := by
  subst hk
  obtain ⟨f, x, h⟩ := h
  rcases DataW.trod_slice ht h with h0 | ⟨a, len, cap, elems, rest, n, _, h1, _, _, h2, h3, h4, h5, h6, _⟩
  · exact .inl h0.1
  refine .inr ⟨a, len, cap, h1, h2, h3, fun i hi => ?_⟩
  obtain ⟨g1, g2⟩ := h6 rfl
  have hb : ∃ y, (w.cells? 0 (a.add (i * P.cellsOf e)) (P.cellsOf e)).bind (DataW.trod enc P w 0 (fun _ => true) true n e) = some y := by
    by_cases hl : i < len
    · exact ⟨elems[i]'(by omega), by rw [h5 i hl]; exact List.getElem?_eq_getElem _⟩
    · have := g2 (i - len) (by omega)
      rw [show len + (i - len) = i from by omega] at this
      exact ⟨rest[i - len]'(by omega), by rw [this]; exact List.getElem?_eq_getElem _⟩
  obtain ⟨y, hy⟩ := hb
  obtain ⟨l, hl1, hl2⟩ := Option.bind_eq_some_iff.1 hy
  exact ⟨l, hl1, n, y, hl2⟩
end
end Go.Sx
namespace Go.Sx
open Go Go.RowKit
/-- The world as a callee gets it, with blocks that it was handed. -/
theorem Rep.given {w : World} {b : Nat} {o : Obj} (h : w.heap[b]? = some o) : Rep w w [⟨b, o, false⟩] :=
  ⟨rfl, rfl, rfl, Nat.le_refl _, fun x hx => (by simp at hx; subst hx; exact h), fun x hx ho => (by simp at hx; subst hx; cases ho), (by simp), fun _ _ _ => rfl⟩
/-- The entries of L, turned where G says so. -/
inductive Turn : List Ent → List Ent → List Ent → Prop
  | nil {L : List Ent} : Turn L [] L
  | cons {L L' L'' : List Ent} {b : Nat} {o o' : Obj} {G : List Ent} : Upd L b o o' L' → Turn L' G L'' → Turn L (⟨b, o', false⟩ :: G) L''
def setAll (w : World) : List Ent → World
  | [] => w
  | x :: G => setAll (setBlk w x.b x.o) G
theorem setAll_size : ∀ (G : List Ent) (w : World), (setAll w G).heap.size = w.heap.size
  | [], _ => rfl
  | x :: G, w => by rw [setAll, setAll_size G]; simp [setBlk]
theorem setAll_rest : ∀ (G : List Ent) (w : World), (setAll w G).os = w.os ∧ (setAll w G).tape = w.tape ∧ (setAll w G).output = w.output
  | [], _ => ⟨rfl, rfl, rfl⟩
  | x :: G, w => by rw [setAll]; exact setAll_rest G _
theorem setAll_far : ∀ (G : List Ent) (w : World) (k : Nat), (∀ x ∈ G, x.b ≠ k) → (setAll w G).heap[k]? = w.heap[k]?
  | [], _, _, _ => rfl
  | x :: G, w, k, h => by
    rw [setAll, setAll_far G _ k (fun y hy => h y (List.mem_cons_of_mem _ hy))]
    have := h x List.mem_cons_self
    simp [setBlk, this]
theorem setAll_at : ∀ (G : List Ent) (w : World), (G.map Ent.b).Nodup → ∀ x ∈ G, x.b < w.heap.size → (setAll w G).heap[x.b]? = some x.o
  | [], _, _, x, hx, _ => by cases hx
  | y :: G, w, hnd, x, hx, hlt => by
    simp only [List.map_cons, List.nodup_cons] at hnd
    rcases List.mem_cons.1 hx with rfl | hx
    · rw [setAll, setAll_far G _ _ (fun z hz e => hnd.1 (List.mem_map.2 ⟨z, hz, e⟩))]
      simp [setBlk, hlt]
    · rw [setAll]
      exact setAll_at G _ hnd.2 x hx (by simpa [setBlk] using hlt)
theorem Turn.rep {w0 : World} {L G L' : List Ent} (hT : Turn L G L') : ∀ {w : World}, Rep w0 w L → Rep w0 (setAll w G) L' := by
  induction hT with
  | nil => intro w h; exact h
  | cons hu _ ih => intro w h; exact ih (h.upd hu)
theorem Rep.turned {w0 w w' : World} {L G L' N : List Ent} (h : Rep w0 w L) (hT : Turn L G L') (hN : ∀ x ∈ N, x.own = true) (hG : ∀ x ∈ G, x.b < w.heap.size) (hw : Rep w w' (N ++ G)) : Rep w0 w' (N ++ L') := by
  have hnd := hw.nd
  rw [List.map_append, List.nodup_append] at hnd
  refine (hT.rep h).beside (N := N) ⟨?_, ?_, ?_, ?_, fun x hx => hw.ok x (List.mem_append_left _ hx), fun x hx ho => by rw [setAll_size]; exact hw.own x (List.mem_append_left _ hx) ho, hnd.1, fun b hb hx => ?_⟩ hN
  · rw [(setAll_rest G w).1]; exact hw.os
  · rw [(setAll_rest G w).2.1]; exact hw.tape
  · rw [(setAll_rest G w).2.2]; exact hw.output
  · rw [setAll_size]; exact hw.size
  · rw [setAll_size] at hb
    by_cases hbG : ∀ x ∈ G, x.b ≠ b
    · rw [setAll_far G w b hbG]
      exact hw.frame b hb fun x hxa => by
        rcases List.mem_append.1 hxa with hxa | hxa
        · exact hx x hxa
        · exact hbG x hxa
    · have : ∃ x ∈ G, x.b = b := Classical.byContradiction fun hc => hbG fun x hx e => hc ⟨x, hx, e⟩
      obtain ⟨x, hxG, rfl⟩ := this
      rw [setAll_at G w hnd.2.1 x hxG (hG x hxG)]
      exact hw.ok x (List.mem_append_right _ hxG)
section
variable {r : Option Nat} {P : Program} {n : Nat} {D : List Deferred} {w0 : World} {F : List (Nat × Value)} {L L' G : List Ent} {Q : Exit → Act → World → Prop} {ops : Array Oper}
variable {d : Tmp} {ty : TypeId} {pos : String} {af : Array Edge} {rest : List Oper}
end
end Go.Sx
namespace Go.Sx
open Go Go.RowKit
section
variable {r : Option Nat} {P : Program} {n : Nat} {D : List Deferred} {w0 : World} {F : List (Nat × Value)} {L L0 L' : List Ent} {Q : Exit → Act → World → Prop} {ops : Array Oper}
variable {d : Tmp} {ty : TypeId} {pos : String} {af : Array Edge} {rest : List Oper}
theorem gdo_load {t : TypeId} {x : Operand} (h : St n D w0 F L (WL r P ops Q (⟨some d, .load t x, ty, pos, af, none⟩ :: rest))) :
    St n D w0 F L (WL r P ops Q (⟨some d, .load t x, ty, pos, af, none⟩ :: rest)) := h
theorem wo_load {t e : TypeId} {x : Operand} {b off : Nat} {l : List Value} {fz : Nat × Nat} {v : Value} (hA : TA P t false := by infer_instance) (hx : ev F x = some (.pointer (some ⟨b, off, none⟩)) := by exact rfl) (hk : Kn w0 L b (.cells l.toArray e fz) := by (first | exact Kn.old (by assumption) rfl | (apply Kn.oldA; assumption; ((focus (repeat (first | exact AO.nil | apply AO.cons | (apply AO.app; assumption)))) <;> fail)) | (apply Kn.apart; assumption; ((focus (repeat (first | exact Apart.nil | apply Apart.own | (apply Apart.given; assumption) | (apply Apart.app; assumption)))) <;> fail)) | (refine Kn.at ?_; ((focus (repeat (first | assumption | exact At.hd | refine At.tl ?_ | (refine At.left ?_; assumption) | refine At.right ?_))) <;> fail)))) (hv : Nth l off v := by (repeat (first | exact Nth.z | apply Nth.s))) (hd : Nat.ble (d + 1) n = true := by exact rfl) (h : St n D w0 ((d, v) :: F) L (WL r P ops Q rest)) :
    St n D w0 F L (WL r P ops Q (⟨some d, .load t x, ty, pos, af, none⟩ :: rest)) := o_load hA hx hk hv hd h
theorem wo_loadAll {t e : TypeId} {k : Nat} {x : Operand} {b : Nat} {l : List Value} {fz : Nat × Nat} (hA : TA P t true := by infer_instance) (hS : TS P t k := by infer_instance) (hx : ev F x = some (.pointer (some ⟨b, 0, none⟩)) := by exact rfl) (hk : Kn w0 L b (.cells l.toArray e fz) := by (first | exact Kn.old (by assumption) rfl | (apply Kn.oldA; assumption; ((focus (repeat (first | exact AO.nil | apply AO.cons | (apply AO.app; assumption)))) <;> fail)) | (apply Kn.apart; assumption; ((focus (repeat (first | exact Apart.nil | apply Apart.own | (apply Apart.given; assumption) | (apply Apart.app; assumption)))) <;> fail)) | (refine Kn.at ?_; ((focus (repeat (first | assumption | exact At.hd | refine At.tl ?_ | (refine At.left ?_; assumption) | refine At.right ?_))) <;> fail)))) (hl : l.length = k := by exact rfl) (hd : Nat.ble (d + 1) n = true := by exact rfl) (h : St n D w0 ((d, .agg l.toArray) :: F) L (WL r P ops Q rest)) :
    St n D w0 F L (WL r P ops Q (⟨some d, .load t x, ty, pos, af, none⟩ :: rest)) := o_loadAll hA hS hx hk hl hd h
theorem gdo_store {t : TypeId} {x y : Operand} (h : St n D w0 F L (WL r P ops Q (⟨none, .store t x y, ty, pos, af, none⟩ :: rest))) :
    St n D w0 F L (WL r P ops Q (⟨none, .store t x y, ty, pos, af, none⟩ :: rest)) := h
theorem wo_store1 {t e : TypeId} {x y : Operand} {b off : Nat} {v : Value} {l l' : List Value} {L' : List Ent} (hS : TS P t 1 := by infer_instance) (hx : ev F x = some (.pointer (some ⟨b, off, none⟩)) := by exact rfl) (hy : ev F y = some v := by exact rfl) (h1 : v.oneCell' = true := by exact rfl) (hat : At L b (Ce l e) := by ((focus (repeat (first | assumption | exact At.hd | refine At.tl ?_ | (refine At.left ?_; assumption) | refine At.right ?_))) <;> fail)) (hp : LPut l off [v] l' := by (repeat (first | exact LPut.done | apply LPut.put | apply LPut.skip))) (hu : Upd L b (Ce l e) (Ce l' e) L' := by (repeat (first | exact Upd.hd | apply Upd.tl | apply Upd.right))) (h : St n D w0 F L' (WL r P ops Q rest)) :
    St n D w0 F L (WL r P ops Q (⟨none, .store t x y, ty, pos, af, none⟩ :: rest)) := o_store1 hS hx hy h1 hat hp hu h
theorem wo_storeA {t e : TypeId} {k : Nat} {x y : Operand} {b off : Nat} {vs l l' : List Value} {L' : List Ent} (hS : TS P t k := by infer_instance) (hx : ev F x = some (.pointer (some ⟨b, off, none⟩)) := by exact rfl) (hy : ev F y = some (.agg vs.toArray) := by exact rfl) (hk : vs.length = k := by exact rfl) (h1 : vs.all (·.oneCell') = true := by exact rfl) (hat : At L b (Ce l e) := by ((focus (repeat (first | assumption | exact At.hd | refine At.tl ?_ | (refine At.left ?_; assumption) | refine At.right ?_))) <;> fail)) (hp : LPut l off vs l' := by (repeat (first | exact LPut.done | apply LPut.put | apply LPut.skip))) (hu : Upd L b (Ce l e) (Ce l' e) L' := by (repeat (first | exact Upd.hd | apply Upd.tl | apply Upd.right))) (h : St n D w0 F L' (WL r P ops Q rest)) :
    St n D w0 F L (WL r P ops Q (⟨none, .store t x y, ty, pos, af, none⟩ :: rest)) := o_storeA hS hx hy hk h1 hat hp hu h
theorem gdo_build {t : TypeId} {xs : List (Nat × Operand)} (h : St n D w0 F L (WL r P ops Q (⟨some d, .build t xs.toArray, ty, pos, af, none⟩ :: rest))) :
    St n D w0 F L (WL r P ops Q (⟨some d, .build t xs.toArray, ty, pos, af, none⟩ :: rest)) := h
theorem wo_build {t : TypeId} {pl : List (Nat × Nat)} {xs : List (Nat × Operand)} {vs : List (Nat × Value)} {z : Value} {zl out : List Value} (hP : TPl P t pl := by infer_instance) (hZ : TZ P t z zl := by infer_instance) (hxs : Parts F xs vs := by (repeat (first | exact Parts.nil | apply Parts.cons rfl))) (hf : Fill (fun i : Nat => pl[i]?) zl vs out := by (repeat (first | exact Fill.nil | (apply Fill.cons rfl rfl rfl; (repeat (first | exact LPut.done | apply LPut.put | apply LPut.skip)))))) (hd : Nat.ble (d + 1) n = true := by exact rfl) (h : St n D w0 ((d, .agg out.toArray) :: F) L (WL r P ops Q rest)) :
    St n D w0 F L (WL r P ops Q (⟨some d, .build t xs.toArray, ty, pos, af, none⟩ :: rest)) := o_build hP hZ hxs hf hd h
theorem wo_buildA {t e : TypeId} {len k : Nat} {xs : List (Nat × Operand)} {vs : List (Nat × Value)} {z : Value} {zl out : List Value} (hU : TU P t (.array len e) := by infer_instance) (hS : TS P e k := by infer_instance) (hZ : TZ P t z zl := by infer_instance) (hxs : Parts F xs vs := by (repeat (first | exact Parts.nil | apply Parts.cons rfl))) (hf : Fill (fun i => some (i * k, k)) zl vs out := by (repeat (first | exact Fill.nil | (apply Fill.cons rfl rfl rfl; (repeat (first | exact LPut.done | apply LPut.put | apply LPut.skip)))))) (hd : Nat.ble (d + 1) n = true := by exact rfl) (h : St n D w0 ((d, .agg out.toArray) :: F) L (WL r P ops Q rest)) :
    St n D w0 F L (WL r P ops Q (⟨some d, .build t xs.toArray, ty, pos, af, none⟩ :: rest)) := o_buildA hU hS hZ hxs hf hd h
theorem gdo_makeFunc {fn : Fn} {xs ys : List Operand} (h : St n D w0 F L (WL r P ops Q (⟨some d, .makeFunc fn xs.toArray ys.toArray, ty, pos, af, none⟩ :: rest))) :
    St n D w0 F L (WL r P ops Q (⟨some d, .makeFunc fn xs.toArray ys.toArray, ty, pos, af, none⟩ :: rest)) := h
theorem wo_func {fn : Fn} {xs ys : List Operand} {vs us : List Value} (hxs : Evs F xs vs := by (repeat (first | exact Evs.nil | apply Evs.cons rfl))) (hys : Evs F ys us := by (repeat (first | exact Evs.nil | apply Evs.cons rfl))) (hd : Nat.ble (d + 1) n = true := by exact rfl) (h : St n D w0 ((d, .func fn vs.toArray us.toArray) :: F) L (WL r P ops Q rest)) :
    St n D w0 F L (WL r P ops Q (⟨some d, .makeFunc fn xs.toArray ys.toArray, ty, pos, af, none⟩ :: rest)) := o_func hxs hys hd h
theorem gdo_buildSlice {t : TypeId} {m : Nat} {xs : List (Nat × Operand)} (h : St n D w0 F L (WL r P ops Q (⟨some d, .buildSlice t m xs.toArray, ty, pos, af, none⟩ :: rest))) :
    St n D w0 F L (WL r P ops Q (⟨some d, .buildSlice t m xs.toArray, ty, pos, af, none⟩ :: rest)) := h
theorem wo_buildSlice {t e : TypeId} {k m : Nat} {z : Value} {zl zs out : List Value} {xs : List (Nat × Operand)} {vs : List (Nat × Value)} (hU : TU P t (.slice e) := by infer_instance) (hS : TS P e k := by infer_instance) (hZ : TZ P e z zl := by infer_instance) (hm : m * k ≤ 16777216 := by decide) (hk : zl.length = k := by exact rfl) (hk0 : 0 < k := by decide) (hzs : (List.replicate m zl).flatten = zs := by (simp only [List.replicate_succ, List.replicate_zero, List.flatten_cons, List.flatten_nil, List.cons_append, List.nil_append, List.append_nil]; exact rfl)) (hxs : Parts F xs vs := by (repeat (first | exact Parts.nil | apply Parts.cons rfl))) (hf : Fill (fun i => some (i * k, k)) zs vs out := by (repeat (first | exact Fill.nil | (apply Fill.cons rfl rfl rfl; (repeat (first | exact LPut.done | apply LPut.put | apply LPut.skip)))))) (hd : Nat.ble (d + 1) n = true := by exact rfl) (h : ∀ b, St n D w0 ((d, .slice (some ⟨b, 0, none⟩) m m) :: F) (⟨b, Ce out e, true⟩ :: L) (WL r P ops Q rest)) :
    St n D w0 F L (WL r P ops Q (⟨some d, .buildSlice t m xs.toArray, ty, pos, af, none⟩ :: rest)) := o_buildSlice hU hS hZ hm hk hk0 hzs hxs hf hd h
theorem gdo_lookup {t : TypeId} {x y : Operand} (h : St n D w0 F L (WL r P ops Q (⟨some d, .lookup t x y false, ty, pos, af, none⟩ :: rest))) :
    St n D w0 F L (WL r P ops Q (⟨some d, .lookup t x y false, ty, pos, af, none⟩ :: rest)) := h
theorem wo_lookS {t k e : TypeId} {kd : IntKind} {x y : Operand} {b : Nat} {i : Int} {l : List Int} (hU : TU P t (.map k e) := by infer_instance) (hV : TU P k (.int kd) := by infer_instance) (hZ : TZ P e (.bool false) [.bool false] := by infer_instance) (hx : ev F x = some (.map (some b)) := by exact rfl) (hy : ev F y = some (.int kd i) := by exact rfl) (hk : Kn w0 L b (MO (setM kd l)) := by (first | exact Kn.old (by assumption) rfl | (apply Kn.oldA; assumption; ((focus (repeat (first | exact AO.nil | apply AO.cons | (apply AO.app; assumption)))) <;> fail)) | (apply Kn.apart; assumption; ((focus (repeat (first | exact Apart.nil | apply Apart.own | (apply Apart.given; assumption) | (apply Apart.app; assumption)))) <;> fail)) | (refine Kn.at ?_; ((focus (repeat (first | assumption | exact At.hd | refine At.tl ?_ | (refine At.left ?_; assumption) | refine At.right ?_))) <;> fail)))) (hm : l.Nodup := by assumption) (hd : Nat.ble (d + 1) n = true := by exact rfl) (h : St n D w0 ((d, .bool (decide (i ∈ l))) :: F) L (WL r P ops Q rest)) :
    St n D w0 F L (WL r P ops Q (⟨some d, .lookup t x y false, ty, pos, af, none⟩ :: rest)) := o_lookS hU hV hZ hx hy hk hm hd h
theorem gdo_mapUpdate {t : TypeId} {x y z : Operand} (h : St n D w0 F L (WL r P ops Q (⟨none, .mapUpdate t x y z, ty, pos, af, none⟩ :: rest))) :
    St n D w0 F L (WL r P ops Q (⟨none, .mapUpdate t x y z, ty, pos, af, none⟩ :: rest)) := h
theorem wo_mapNewS {t k e : TypeId} {kd : IntKind} {x y z : Operand} {b : Nat} {i : Int} {l : List Int} (hU : TU P t (.map k e) := by infer_instance) (hV : TU P k (.int kd) := by infer_instance) (hx : ev F x = some (.map (some b)) := by exact rfl) (hy : ev F y = some (.int kd i) := by exact rfl) (hz : ev F z = some (.bool true) := by exact rfl) (hat : At L b (MO (setM kd l)) := by ((focus (repeat (first | assumption | exact At.hd | refine At.tl ?_ | (refine At.left ?_; assumption) | refine At.right ?_))) <;> fail)) (hm : l.Nodup := by assumption) (hi : i ∉ l := by assumption) (hu : Upd L b (MO (setM kd l)) (MO (setM kd (l ++ [i]))) L' := by (repeat (first | exact Upd.hd | apply Upd.tl | apply Upd.right))) (h : St n D w0 F L' (WL r P ops Q rest)) :
    St n D w0 F L (WL r P ops Q (⟨none, .mapUpdate t x y z, ty, pos, af, none⟩ :: rest)) := o_mapNewS hU hV hx hy hz hat hm hi hu h
theorem wo_loadC {t e : TypeId} {x : Operand} {b off : Nat} {c : Array Value} {fz : Nat × Nat} {v : Value} (hA : TA P t false := by infer_instance) (hx : ev F x = some (.pointer (some ⟨b, off, none⟩)) := by exact rfl) (hk : Kn w0 L b (.cells c e fz) := by (first | exact Kn.old (by assumption) rfl | (apply Kn.oldA; assumption; ((focus (repeat (first | exact AO.nil | apply AO.cons | (apply AO.app; assumption)))) <;> fail)) | (apply Kn.apart; assumption; ((focus (repeat (first | exact Apart.nil | apply Apart.own | (apply Apart.given; assumption) | (apply Apart.app; assumption)))) <;> fail)) | (refine Kn.at ?_; ((focus (repeat (first | assumption | exact At.hd | refine At.tl ?_ | (refine At.left ?_; assumption) | refine At.right ?_))) <;> fail)))) (hv : c[off]? = some v := by assumption) (hd : Nat.ble (d + 1) n = true := by exact rfl) (h : St n D w0 ((d, v) :: F) L (WL r P ops Q rest)) :
    St n D w0 F L (WL r P ops Q (⟨some d, .load t x, ty, pos, af, none⟩ :: rest)) := o_loadC hA hx hk hv hd h
theorem wo_ldV {t e : TypeId} {k : Nat} {x : Operand} {b off : Nat} {c : Array Value} {fz : Nat × Nat} {l : List Value} (hA : TA P t true := by infer_instance) (hS : TS P t k := by infer_instance) (hx : ev F x = some (.pointer (some ⟨b, off, none⟩)) := by exact rfl) (hk : Kn w0 L b (.cells c e fz) := by (first | exact Kn.old (by assumption) rfl | (apply Kn.oldA; assumption; ((focus (repeat (first | exact AO.nil | apply AO.cons | (apply AO.app; assumption)))) <;> fail)) | (apply Kn.apart; assumption; ((focus (repeat (first | exact Apart.nil | apply Apart.own | (apply Apart.given; assumption) | (apply Apart.app; assumption)))) <;> fail)) | (refine Kn.at ?_; ((focus (repeat (first | assumption | exact At.hd | refine At.tl ?_ | (refine At.left ?_; assumption) | refine At.right ?_))) <;> fail)))) (hv : ∀ j v, l[j]? = some v → c[off + j]? = some v := by assumption) (hl : l.length = k := by exact rfl) (hd : Nat.ble (d + 1) n = true := by exact rfl) (h : St n D w0 ((d, .agg l.toArray) :: F) L (WL r P ops Q rest)) :
    St n D w0 F L (WL r P ops Q (⟨some d, .load t x, ty, pos, af, none⟩ :: rest)) := o_ldV hA hS hx hk hv hl hd h
theorem gdo_makeSlice {t : TypeId} {x y : Operand} (h : St n D w0 F L (WL r P ops Q (⟨some d, .makeSlice t x y, ty, pos, af, none⟩ :: rest))) :
    St n D w0 F L (WL r P ops Q (⟨some d, .makeSlice t x y, ty, pos, af, none⟩ :: rest)) := h
theorem wo_makeSlice {t e : TypeId} {k bytes m c : Nat} {kl kc : IntKind} {z : Value} {zl : List Value} {x y : Operand} (hU : TU P t (.slice e) := by infer_instance) (hE : TE P e k bytes z := by infer_instance) (hzl : z.cells = zl.toArray := by exact rfl) (hx : ev F x = some (.int kl m) := by exact rfl) (hy : ev F y = some (.int kc c) := by exact rfl) (hk : zl.length = k := by exact rfl) (hk0 : 0 < k := by decide) (hm : m ≤ c ∧ c ≤ 140737488355328 ∧ c * bytes ≤ 140737488355328 := by (first | omega | (simp only []; omega))) (hd : Nat.ble (d + 1) n = true := by exact rfl) (h : ∀ b, St n D w0 ((d, .slice (some ⟨b, 0, none⟩) m c) :: F) (⟨b, Ce ((List.replicate c zl).flatten) e, true⟩ :: L) (WL r P ops Q rest)) :
    St n D w0 F L (WL r P ops Q (⟨some d, .makeSlice t x y, ty, pos, af, none⟩ :: rest)) := o_makeSlice hU hE hzl hx hy hk hk0 hm hd h
end
section
variable {P : Program} {n : Nat} {D : List Deferred} {w0 : World} {F : List (Nat × Value)} {L L0 L' : List Ent} {J J1 : Made} {Φ : Specs} {X : Act → World → Prop} {kq k : Nat} {ops : Array Oper}
variable {d : Tmp} {ty : TypeId} {pos : String} {af : Array Edge} {rest : List Oper}
theorem gdq_load {t : TypeId} {x : Operand} (h : St n D w0 F L (WQ P ops w0 L Φ X kq J (⟨some d, .load t x, ty, pos, af, none⟩ :: rest))) :
    St n D w0 F L (WQ P ops w0 L Φ X kq J (⟨some d, .load t x, ty, pos, af, none⟩ :: rest)) := h
theorem wq_load {t e : TypeId} {x : Operand} {b off : Nat} {l : List Value} {fz : Nat × Nat} {v : Value} (hA : TA P t false := by infer_instance) (hx : ev F x = some (.pointer (some ⟨b, off, none⟩)) := by exact rfl) (hΦ : Φ kq = none := by exact rfl) (hJ : SubJ ((anc ops).getD kq 0) J1 J := by (focus (repeat (first | (apply SubJ.keep; (decide +kernel)) | apply SubJ.drop | exact SubJ.nil)))) (hk : Kn w0 (ents J1 L) b (.cells l.toArray e fz) := by (first | exact Kn.old (by assumption) rfl | (apply Kn.oldA; assumption; ((focus (repeat (first | exact AO.nil | apply AO.cons | (apply AO.app; assumption)))) <;> fail)) | (apply Kn.apart; assumption; ((focus (repeat (first | exact Apart.nil | apply Apart.own | (apply Apart.given; assumption) | (apply Apart.app; assumption)))) <;> fail)) | (refine Kn.at ?_; ((focus (repeat (first | assumption | exact At.hd | refine At.tl ?_ | (refine At.left ?_; assumption) | refine At.right ?_))) <;> fail)))) (hv : Nth l off v := by (repeat (first | exact Nth.z | apply Nth.s))) (hd : Nat.ble (d + 1) n = true := by exact rfl) (h : St n D w0 ((d, v) :: F) L (WQ P ops w0 L Φ X (kq + 1) J rest)) :
    St n D w0 F L (WQ P ops w0 L Φ X kq J (⟨some d, .load t x, ty, pos, af, none⟩ :: rest)) := q_load hA hx hΦ hJ hk hv hd h
theorem wq_loadAll {t e : TypeId} {k : Nat} {x : Operand} {b : Nat} {l : List Value} {fz : Nat × Nat} (hA : TA P t true := by infer_instance) (hS : TS P t k := by infer_instance) (hx : ev F x = some (.pointer (some ⟨b, 0, none⟩)) := by exact rfl) (hΦ : Φ kq = none := by exact rfl) (hJ : SubJ ((anc ops).getD kq 0) J1 J := by (focus (repeat (first | (apply SubJ.keep; (decide +kernel)) | apply SubJ.drop | exact SubJ.nil)))) (hk : Kn w0 (ents J1 L) b (.cells l.toArray e fz) := by (first | exact Kn.old (by assumption) rfl | (apply Kn.oldA; assumption; ((focus (repeat (first | exact AO.nil | apply AO.cons | (apply AO.app; assumption)))) <;> fail)) | (apply Kn.apart; assumption; ((focus (repeat (first | exact Apart.nil | apply Apart.own | (apply Apart.given; assumption) | (apply Apart.app; assumption)))) <;> fail)) | (refine Kn.at ?_; ((focus (repeat (first | assumption | exact At.hd | refine At.tl ?_ | (refine At.left ?_; assumption) | refine At.right ?_))) <;> fail)))) (hl : l.length = k := by exact rfl) (hd : Nat.ble (d + 1) n = true := by exact rfl) (h : St n D w0 ((d, .agg l.toArray) :: F) L (WQ P ops w0 L Φ X (kq + 1) J rest)) :
    St n D w0 F L (WQ P ops w0 L Φ X kq J (⟨some d, .load t x, ty, pos, af, none⟩ :: rest)) := q_loadAll hA hS hx hΦ hJ hk hl hd h
theorem gdq_build {t : TypeId} {xs : List (Nat × Operand)} (h : St n D w0 F L (WQ P ops w0 L Φ X kq J (⟨some d, .build t xs.toArray, ty, pos, af, none⟩ :: rest))) :
    St n D w0 F L (WQ P ops w0 L Φ X kq J (⟨some d, .build t xs.toArray, ty, pos, af, none⟩ :: rest)) := h
theorem wq_build {t : TypeId} {pl : List (Nat × Nat)} {xs : List (Nat × Operand)} {vs : List (Nat × Value)} {z : Value} {zl out : List Value} (hP : TPl P t pl := by infer_instance) (hZ : TZ P t z zl := by infer_instance) (hxs : Parts F xs vs := by (repeat (first | exact Parts.nil | apply Parts.cons rfl))) (hf : Fill (fun i : Nat => pl[i]?) zl vs out := by (repeat (first | exact Fill.nil | (apply Fill.cons rfl rfl rfl; (repeat (first | exact LPut.done | apply LPut.put | apply LPut.skip)))))) (hd : Nat.ble (d + 1) n = true := by exact rfl) (h : St n D w0 ((d, .agg out.toArray) :: F) L (WQ P ops w0 L Φ X (kq + 1) J rest)) :
    St n D w0 F L (WQ P ops w0 L Φ X kq J (⟨some d, .build t xs.toArray, ty, pos, af, none⟩ :: rest)) := q_build hP hZ hxs hf hd h
theorem gdq_call_len {t : TypeId} {x : Operand} (h : St n D w0 F L (WQ P ops w0 L Φ X kq J (⟨some d, .call ⟨.builtin .len, #[x], #[t]⟩, ty, pos, af, none⟩ :: rest))) :
    St n D w0 F L (WQ P ops w0 L Φ X kq J (⟨some d, .call ⟨.builtin .len, #[x], #[t]⟩, ty, pos, af, none⟩ :: rest)) := h
theorem wq_len {t e : TypeId} {x : Operand} {a0 : Option Addr} {len cap : Nat} (hU : TU P t (.slice e) := by infer_instance) (hx : ev F x = some (.slice a0 len cap) := by exact rfl) (hΦ : Φ kq = none := by exact rfl) (hJ : SubJ ((anc ops).getD kq 0) J1 J := by (focus (repeat (first | (apply SubJ.keep; (decide +kernel)) | apply SubJ.drop | exact SubJ.nil)))) (hd : Nat.ble (d + 1) n = true := by exact rfl) (h : St n D w0 ((d, .int .i64 len) :: F) L (WQ P ops w0 L Φ X (kq + 1) J rest)) :
    St n D w0 F L (WQ P ops w0 L Φ X kq J (⟨some d, .call ⟨.builtin .len, #[x], #[t]⟩, ty, pos, af, none⟩ :: rest)) := q_len hU hx hΦ hJ hd h
theorem gdq_nilCheck {x : Operand} (h : St n D w0 F L (WQ P ops w0 L Φ X kq J (⟨some d, .nilCheck x, ty, pos, af, none⟩ :: rest))) :
    St n D w0 F L (WQ P ops w0 L Φ X kq J (⟨some d, .nilCheck x, ty, pos, af, none⟩ :: rest)) := h
theorem wq_nilCheck {x : Operand} {p : Addr} (hx : ev F x = some (.pointer (some p)) := by exact rfl) (hΦ : Φ kq = none := by exact rfl) (hJ : SubJ ((anc ops).getD kq 0) J1 J := by (focus (repeat (first | (apply SubJ.keep; (decide +kernel)) | apply SubJ.drop | exact SubJ.nil)))) (hd : Nat.ble (d + 1) n = true := by exact rfl) (h : St n D w0 ((d, .pointer (some p)) :: F) L (WQ P ops w0 L Φ X (kq + 1) J rest)) :
    St n D w0 F L (WQ P ops w0 L Φ X kq J (⟨some d, .nilCheck x, ty, pos, af, none⟩ :: rest)) := q_nilCheck hx hΦ hJ hd h
theorem wq_loadC {t e : TypeId} {x : Operand} {b off : Nat} {c : Array Value} {fz : Nat × Nat} {v : Value} (hA : TA P t false := by infer_instance) (hx : ev F x = some (.pointer (some ⟨b, off, none⟩)) := by exact rfl) (hΦ : Φ kq = none := by exact rfl) (hJ : SubJ ((anc ops).getD kq 0) J1 J := by (focus (repeat (first | (apply SubJ.keep; (decide +kernel)) | apply SubJ.drop | exact SubJ.nil)))) (hk : Kn w0 (ents J1 L) b (.cells c e fz) := by (first | exact Kn.old (by assumption) rfl | (apply Kn.oldA; assumption; ((focus (repeat (first | exact AO.nil | apply AO.cons | (apply AO.app; assumption)))) <;> fail)) | (apply Kn.apart; assumption; ((focus (repeat (first | exact Apart.nil | apply Apart.own | (apply Apart.given; assumption) | (apply Apart.app; assumption)))) <;> fail)) | (refine Kn.at ?_; ((focus (repeat (first | assumption | exact At.hd | refine At.tl ?_ | (refine At.left ?_; assumption) | refine At.right ?_))) <;> fail)))) (hv : c[off]? = some v := by assumption) (hd : Nat.ble (d + 1) n = true := by exact rfl) (h : St n D w0 ((d, v) :: F) L (WQ P ops w0 L Φ X (kq + 1) J rest)) :
    St n D w0 F L (WQ P ops w0 L Φ X kq J (⟨some d, .load t x, ty, pos, af, none⟩ :: rest)) := q_loadC hA hx hΦ hJ hk hv hd h
theorem gdq_store {t : TypeId} {x y : Operand} (h : St n D w0 F L (WQ P ops w0 L Φ X k J (⟨none, .store t x y, ty, pos, af, none⟩ :: rest))) :
    St n D w0 F L (WQ P ops w0 L Φ X k J (⟨none, .store t x y, ty, pos, af, none⟩ :: rest)) := h
theorem wq_storeA {t e : TypeId} {kk : Nat} {x y : Operand} {b off : Nat} {vs l l' : List Value} {L' : List Ent} (hS : TS P t kk := by infer_instance) (hx : ev F x = some (.pointer (some ⟨b, off, none⟩)) := by exact rfl) (hy : ev F y = some (.agg vs.toArray) := by exact rfl) (hk : vs.length = kk := by exact rfl) (h1 : vs.all (·.oneCell') = true := by exact rfl) (hat : At L b (Ce l e) := by ((focus (repeat (first | assumption | exact At.hd | refine At.tl ?_ | (refine At.left ?_; assumption) | refine At.right ?_))) <;> fail)) (hp : LPut l off vs l' := by (repeat (first | exact LPut.done | apply LPut.put | apply LPut.skip))) (hu : Upd L b (Ce l e) (Ce l' e) L' := by (repeat (first | exact Upd.hd | apply Upd.tl | apply Upd.right))) (h : St n D w0 F L' (WQ P ops w0 L' Φ X (k + 1) J rest)) :
    St n D w0 F L (WQ P ops w0 L Φ X k J (⟨none, .store t x y, ty, pos, af, none⟩ :: rest)) := q_storeA hS hx hy hk h1 hat hp hu h
theorem wq_storeAE {t e : TypeId} {kk : Nat} {x y : Operand} {b off : Nat} {vs l l' : List Value} {J' : Made} (hS : TS P t kk := by infer_instance) (hx : ev F x = some (.pointer (some ⟨b, off, none⟩)) := by exact rfl) (hy : ev F y = some (.agg vs.toArray) := by exact rfl) (hk : vs.length = kk := by exact rfl) (h1 : vs.all (·.oneCell') = true := by exact rfl) (hat : At (ents J []) b (Ce l e) := by ((focus (repeat (first | assumption | exact At.hd | refine At.tl ?_ | (refine At.left ?_; assumption) | refine At.right ?_))) <;> fail)) (hp : LPut l off vs l' := by (repeat (first | exact LPut.done | apply LPut.put | apply LPut.skip))) (hu : UpdJ J b (Ce l e) (Ce l' e) J' := by (repeat (first | apply UpdJ.hd; (repeat (first | exact Upd.hd | apply Upd.tl | apply Upd.right)) | apply UpdJ.tl))) (h : St n D w0 F L (WQ P ops w0 L Φ X (k + 1) J' rest)) :
    St n D w0 F L (WQ P ops w0 L Φ X k J (⟨none, .store t x y, ty, pos, af, none⟩ :: rest)) := q_storeAE hS hx hy hk h1 hat hp hu h
theorem gdq_buildSlice {t : TypeId} {m : Nat} {xs : List (Nat × Operand)} (h : St n D w0 F L (WQ P ops w0 L Φ X k J (⟨some d, .buildSlice t m xs.toArray, ty, pos, af, none⟩ :: rest))) :
    St n D w0 F L (WQ P ops w0 L Φ X k J (⟨some d, .buildSlice t m xs.toArray, ty, pos, af, none⟩ :: rest)) := h
theorem wq_buildSlice {t e : TypeId} {kk m : Nat} {z : Value} {zl zs out : List Value} {xs : List (Nat × Operand)} {vs : List (Nat × Value)} (hU : TU P t (.slice e) := by infer_instance) (hS : TS P e kk := by infer_instance) (hZ : TZ P e z zl := by infer_instance) (hm : m * kk ≤ 16777216 := by decide) (hk : zl.length = kk := by exact rfl) (hk0 : 0 < kk := by decide) (hzs : (List.replicate m zl).flatten = zs := by (simp only [List.replicate_succ, List.replicate_zero, List.flatten_cons, List.flatten_nil, List.cons_append, List.nil_append, List.append_nil]; exact rfl)) (hxs : Parts F xs vs := by (repeat (first | exact Parts.nil | apply Parts.cons rfl))) (hf : Fill (fun i => some (i * kk, kk)) zs vs out := by (repeat (first | exact Fill.nil | (apply Fill.cons rfl rfl rfl; (repeat (first | exact LPut.done | apply LPut.put | apply LPut.skip)))))) (hd : Nat.ble (d + 1) n = true := by exact rfl) (h : ∀ b, St n D w0 ((d, .slice (some ⟨b, 0, none⟩) m m) :: F) L (WQ P ops w0 L Φ X (k + 1) ((k, [⟨b, Ce out e, true⟩]) :: J) rest)) :
    St n D w0 F L (WQ P ops w0 L Φ X k J (⟨some d, .buildSlice t m xs.toArray, ty, pos, af, none⟩ :: rest)) := q_buildSlice hU hS hZ hm hk hk0 hzs hxs hf hd h
theorem gdq_makeSlice {t : TypeId} {x y : Operand} (h : St n D w0 F L (WQ P ops w0 L Φ X k J (⟨some d, .makeSlice t x y, ty, pos, af, none⟩ :: rest))) :
    St n D w0 F L (WQ P ops w0 L Φ X k J (⟨some d, .makeSlice t x y, ty, pos, af, none⟩ :: rest)) := h
theorem wq_makeSlice {t e : TypeId} {kk bytes m c : Nat} {kl kc : IntKind} {z : Value} {zl : List Value} {x y : Operand} (hU : TU P t (.slice e) := by infer_instance) (hE : TE P e kk bytes z := by infer_instance) (hzl : z.cells = zl.toArray := by exact rfl) (hx : ev F x = some (.int kl m) := by exact rfl) (hy : ev F y = some (.int kc c) := by exact rfl) (hk : zl.length = kk := by exact rfl) (hk0 : 0 < kk := by decide) (hm : m ≤ c ∧ c ≤ 140737488355328 ∧ c * bytes ≤ 140737488355328 := by (first | omega | (simp only []; omega))) (hd : Nat.ble (d + 1) n = true := by exact rfl) (h : ∀ b, St n D w0 ((d, .slice (some ⟨b, 0, none⟩) m c) :: F) L (WQ P ops w0 L Φ X (k + 1) ((k, [⟨b, Ce ((List.replicate c zl).flatten) e, true⟩]) :: J) rest)) :
    St n D w0 F L (WQ P ops w0 L Φ X k J (⟨some d, .makeSlice t x y, ty, pos, af, none⟩ :: rest)) := q_makeSlice hU hE hzl hx hy hk hk0 hm hd h
end
end Go.Sx
namespace Go.Sx
open Go Go.RowKit
/-! ## views -/
/-- The cells from off on are the elements' cells. -/
def Pat {α : Type} (c : Array Value) (off k : Nat) (enc : α → List Value) (xs : List α) : Prop := ∀ i x, xs[i]? = some x → ∀ j u, (enc x)[j]? = some u → c[off + i * k + j]? = some u
/-- v is a slice that shows xs in w. -/
def SV {α : Type} (w : World) (k : Nat) (enc : α → List Value) (v : Value) (xs : List α) : Prop :=
  ∃ a cap, v = .slice a xs.length cap ∧ (xs.length ≤ cap ∧ xs.length ≤ 9223372036854775807) ∧ (xs = [] ∨ ∃ b off c e fz, a = some ⟨b, off, none⟩ ∧ w.heap[b]? = some (.cells c e fz) ∧ Pat c off k enc xs)
section
variable {α : Type} {w w' w0 : World} {k : Nat} {enc : α → List Value} {v : Value} {xs : List α}
theorem SV.nil : SV w k enc (.slice none 0 0) ([] : List α) := ⟨none, 0, rfl, ⟨Nat.le_refl _, by simp⟩, .inl rfl⟩
theorem SV.keep {L : List Ent} (h : SV w0 k enc v xs) (hw : Rep w0 w L) (ho : AO L) : SV w k enc v xs := by
  obtain ⟨a, cap, h1, hc, h2⟩ := h
  refine ⟨a, cap, h1, hc, ?_⟩
  rcases h2 with h2 | ⟨b, off, c, e, fz, h2, h3, h4⟩
  · exact .inl h2
  · refine .inr ⟨b, off, c, e, fz, h2, ?_, h4⟩
    rw [(hw.below ho).block b (Array.getElem?_eq_some_iff.1 h3).1]; exact h3
theorem SV.of_kn {b off cap : Nat} {c : Array Value} {e : TypeId} {fz : Nat × Nat} (hk : w.heap[b]? = some (.cells c e fz)) (hc : xs.length ≤ cap ∧ xs.length ≤ 9223372036854775807) (hp : Pat c off k enc xs) : SV w k enc (.slice (some ⟨b, off, none⟩) xs.length cap) xs :=
  ⟨_, _, rfl, hc, .inr ⟨b, off, c, e, fz, rfl, hk, hp⟩⟩
theorem Pat.flat (hk : ∀ x, (enc x).length = k) (xs : List α) (s : List Value) : Pat (xs.flatMap enc ++ s).toArray 0 k enc xs := fun i x hx j u hj => by
  have := flat_get hk xs s i x hx j u hj
  simpa using this
theorem Pat.get {c : Array Value} {off : Nat} (h : Pat c off k enc xs) {m : Nat} {x : α} (hx : xs[m]? = some x) : ∀ j u, (enc x)[j]? = some u → c[off + m * k + j]? = some u := h m x hx
theorem Pat.one {c : Array Value} {off : Nat} (h : Pat c off k enc xs) {m : Nat} {x : α} {u : Value} (hx : xs[m]? = some x) (hu : (enc x)[0]? = some u) : c[off + m * k]? = some u := by
  have := h m x hx 0 u hu; rwa [Nat.add_zero] at this
/-- The elements' cells, one after the other. -/
theorem Pat.cells {c : Array Value} {off : Nat} (hk : ∀ x, (enc x).length = k) (h : Pat c off k enc xs) : ∀ j u, (xs.flatMap enc)[j]? = some u → c[off + j]? = some u := by
  intro j u hj
  have hlt := (List.getElem?_eq_some_iff.1 hj).1
  rw [flat_len hk] at hlt
  have hk0 : 0 < k := by
    rcases Nat.eq_zero_or_pos k with h0 | h0
    · subst h0; omega
    · exact h0
  have hi : j / k < xs.length := (Nat.div_lt_iff_lt_mul hk0).2 hlt
  have hx : xs[j / k]? = some xs[j / k] := List.getElem?_eq_getElem hi
  have hm := Nat.mod_lt j hk0
  have hjk : j / k * k + j % k = j := by rw [Nat.mul_comm]; exact Nat.div_add_mod j k
  have hu : (enc xs[j / k])[j % k]? = some ((enc xs[j / k])[j % k]'(by rw [hk]; exact hm)) := List.getElem?_eq_getElem _
  have h1 := flat_get hk xs [] (j / k) _ hx (j % k) _ hu
  rw [List.append_nil, hjk, hj] at h1
  injection h1 with h1
  have h2 := h (j / k) _ hx (j % k) _ hu
  rw [Nat.add_assoc, hjk, ← h1] at h2
  exact h2
theorem SV.take {n : Nat} (h : SV w k enc v xs) : ∃ a cap, v = .slice a xs.length cap ∧ SV w k enc (.slice a (xs.take n).length cap) (xs.take n) := by
  obtain ⟨a, cap, h1, hc, h2⟩ := h
  refine ⟨a, cap, h1, a, cap, rfl, by simp; omega, ?_⟩
  rcases h2 with rfl | ⟨b, off, c, e, fz, h2, h3, h4⟩
  · exact .inl (by simp)
  · refine .inr ⟨b, off, c, e, fz, h2, h3, fun i x hx => h4 i x ?_⟩
    rw [List.getElem?_take] at hx
    split at hx
    · exact hx
    · cases hx
end
/-! ## a row of the call's own, as a list -/
/-- v shows xs, in a row of the call's own (or none). -/
inductive OW {α : Type} (E : TypeId) (k : Nat) (enc : α → List Value) : Value → List α → List Ent → Prop
  | nil : OW E k enc (.slice none 0 0) [] []
  | row {b cap : Nat} {xs : List α} {s : List Value} : (xs.flatMap enc ++ s).length = cap * k → (xs.length ≤ cap ∧ xs.length ≤ 9223372036854775807) → OW E k enc (.slice (some ⟨b, 0, none⟩) xs.length cap) xs [⟨b, Ce (xs.flatMap enc ++ s) E, true⟩]
section
variable {α : Type} {E : TypeId} {k : Nat} {enc : α → List Value} {v : Value} {xs : List α} {N : List Ent}
theorem OW.own (h : OW E k enc v xs N) : ∀ x ∈ N, x.own = true := by cases h <;> simp
theorem OW.parts (h : OW E k enc v xs N) : (v = .slice none 0 0 ∧ xs = [] ∧ N = []) ∨
    ∃ b cap s, v = .slice (some ⟨b, 0, none⟩) xs.length cap ∧ N = [⟨b, Ce (xs.flatMap enc ++ s) E, true⟩] ∧ (xs.flatMap enc ++ s).length = cap * k ∧ xs.length ≤ cap ∧ xs.length ≤ 9223372036854775807 := by
  cases h with
  | nil => exact .inl ⟨rfl, rfl, rfl⟩
  | row h1 h2 => exact .inr ⟨_, _, _, rfl, rfl, h1, h2⟩
/-- What a slice of the call's own is to read. -/
theorem OW.open (h : OW E k enc v xs N) : ∃ a cap, v = .slice a xs.length cap ∧ (xs.length ≤ cap ∧ xs.length ≤ 9223372036854775807) ∧ (0 < xs.length → ∃ b s, a = some ⟨b, 0, none⟩ ∧ N = [⟨b, Ce (xs.flatMap enc ++ s) E, true⟩] ∧ (xs.flatMap enc ++ s).length = cap * k) := by
  rcases h.parts with ⟨rfl, rfl, rfl⟩ | ⟨b, cap, s, rfl, rfl, h1, h2⟩
  · exact ⟨none, 0, rfl, ⟨Nat.le_refl _, by simp⟩, fun h => by simp at h⟩
  · exact ⟨_, cap, rfl, h2, fun _ => ⟨b, s, rfl, rfl, h1⟩⟩
theorem OW.sv (hk : ∀ x, (enc x).length = k) (h : OW E k enc v xs N) {w0 w : World} {L L0 : List Ent} (hr : RemL L N L0) (hw : Rep w0 w L) : SV w k enc v xs := by
  have hwp : Rep w0 w (N ++ L0) := hw.perm hr
  rcases h.parts with ⟨rfl, rfl, rfl⟩ | ⟨b, cap, s, rfl, rfl, h1, h2⟩
  · exact SV.nil
  · exact SV.of_kn (hwp.ok _ List.mem_cons_self) h2 (Pat.flat hk xs s)
end
/-- One cell for a number. -/
def encI (x : Int) : List Value := [.int .i64 x]
theorem encI_len : ∀ x, (encI x).length = 1 := fun _ => rfl
theorem encI_one : ∀ x, (encI x).all (·.oneCell') = true := fun _ => rfl
theorem SV.open {α : Type} {w : World} {k : Nat} {enc : α → List Value} {v : Value} {xs : List α} (h : SV w k enc v xs) : ∃ a cap, v = .slice a xs.length cap ∧ (xs.length ≤ cap ∧ xs.length ≤ 9223372036854775807) ∧
    (0 < xs.length → ∃ b off c e fz, a = some ⟨b, off, none⟩ ∧ w.heap[b]? = some (.cells c e fz) ∧ Pat c off k enc xs) := by
  obtain ⟨a, cap, h1, hc, h2⟩ := h
  refine ⟨a, cap, h1, hc, fun h0 => ?_⟩
  rcases h2 with rfl | h2
  · simp at h0
  · exact h2
theorem SV.at {α : Type} {w0 w : World} {k : Nat} {enc : α → List Value} {L : List Ent} {b cap : Nat} {e : TypeId} {xs : List α} {s : List Value} (henc : ∀ x, (enc x).length = k) (hw : Rep w0 w L) (h : At L b (Ce (xs.flatMap enc ++ s) e)) (hc : xs.length ≤ cap ∧ xs.length ≤ 9223372036854775807) : SV w k enc (.slice (some ⟨b, 0, none⟩) xs.length cap) xs :=
  SV.of_kn (hw.at h) hc (Pat.flat henc xs s)
/-- A row of the call's own that was written down element by element. -/
theorem SV.lit {α : Type} {w0 w : World} {k n : Nat} {enc : α → List Value} {L : List Ent} {b : Nat} {e : TypeId} {l : List Value} (xs : List α) (henc : ∀ x, (enc x).length = k) (hw : Rep w0 w L) (h : At L b (Ce l e)) (hl : l = xs.flatMap enc) (hn : n = xs.length) (hb : n ≤ 9223372036854775807) :
    SV w k enc (.slice (some ⟨b, 0, none⟩) n n) xs := by
  subst hl hn
  exact SV.at (s := []) henc hw (by rw [List.append_nil]; exact h) ⟨Nat.le_refl _, hb⟩
section
variable {r : Option Nat} {P : Program} {n : Nat} {D : List Deferred} {w0 : World} {F : List (Nat × Value)} {L L0 : List Ent} {Q : Exit → Act → World → Prop} {ops : Array Oper}
variable {d : Tmp} {ty : TypeId} {pos : String} {af : Array Edge} {rest : List Oper}
theorem run_append_none {t e : TypeId} {a0 a1 : Option Addr} {m c cx : Nat} {w : World} (hU : TU P t (.slice e)) (hm : m ≤ c) {k : Nat} (hS : TS P e k) :
    (Builtin.append_ #[t, t] ty #[.slice a0 m c, .slice a1 0 cx]).run P w = .ok (.slice a0 m c) w := by
  cases a1 with
  | none => cases a0 <;> simp [Builtin.append_, run_under (TU.h (P := P) (t := t)), TS.h (P := P) (t := e), Builtin.lenOf, Builtin.firstCells, hm, storeCells]
  | some p =>
    have h0 : (loadCells p 0).run P w = .ok #[] w := by simpa using run_loadCells_list (P := P) w p [] (by simp)
    cases a0 <;> simp [Builtin.append_, run_under (TU.h (P := P) (t := t)), TS.h (P := P) (t := e), Builtin.lenOf, Builtin.firstCells, hm, storeCells, h0]
/-- Elements appended to a slice of the call's own: the source may be any slice that shows ys. -/
theorem o_appG {α : Type} {enc : α → List Value} {t e : TypeId} {k bytes : Nat} {z : Value} {x y : Operand} {v vy : Value} {xs ys : List α} {N : List Ent} (hU : TU P t (.slice e)) (hE : TE P e k bytes z) (hS : TS P e k) (hzk : z.cells.size = k) (henc : ∀ x, (enc x).length = k) (h1 : ∀ x, (enc x).all (·.oneCell') = true)
    (hx : ev F x = some v) (hy : ev F y = some vy) (hd : Nat.ble (d + 1) n = true) (hv : OW e k enc v xs N) (hr : RemL L N L0) (hsv : ∀ w, Rep w0 w L → SV w k enc vy ys)
    (hm : (xs.length + ys.length) * bytes ≤ 140737488355328 ∧ xs.length + ys.length ≤ 140737488355328)
    (h : ∀ v' N', OW e k enc v' (xs ++ ys) N' → St n D w0 ((d, v') :: F) (N' ++ L0) (WL r P ops Q rest)) :
    St n D w0 F L (WL r P ops Q (⟨some d, .call ⟨.builtin .append, #[x, y], #[t, t]⟩, ty, pos, af, none⟩ :: rest)) := by
  intro a w ha hw
  have hwp : Rep w0 w (N ++ L0) := hw.perm hr
  obtain ⟨a1, cx, rfl, hcx, hcase⟩ := hsv w hw
  have hfl := flat_len henc ys
  have hflx := flat_len henc xs
  by_cases hys : ys = []
  · subst hys
    obtain ⟨a0, cap, rfl, hcap⟩ : ∃ a0 cap, v = .slice a0 xs.length cap ∧ xs.length ≤ cap := by
      rcases hv.parts with ⟨rfl, rfl, rfl⟩ | ⟨b, cap, s, rfl, rfl, h2, h3⟩
      · exact ⟨none, 0, rfl, Nat.le_refl _⟩
      · exact ⟨_, cap, rfl, h3.1⟩
    refine o_plain (F := F) (L := L) (w0 := w0) rfl rfl (fun a w ha hw => ?_) a w ha hw
    have hrun := run_append_none (P := P) (ty := ty) (a0 := a0) (a1 := a1) (cx := cx) (w := w) hU hcap hS
    rw [run_app (ha.eval hx) (ha.eval hy) (by simpa using hrun)]
    exact h _ N (by simpa using hv) _ _ (ha.put (Nat.le_of_ble_eq_true hd) _) (hw.perm hr)
  · have hpos : 0 < ys.length := List.length_pos_iff.2 hys
    rcases hcase with h0 | ⟨b, off, c, e', fz, rfl, hk, hp⟩
    · exact absurd h0 hys
    have hcells := Pat.cells henc hp
    rcases hv.parts with ⟨rfl, rfl, rfl⟩ | ⟨b0, cap0, s0, rfl, rfl, h2, h3⟩
    · -- into nothing
      refine o_plain (F := F) (L := L) (w0 := w0) (D := D) (n := n) (r := r) (Q := Q) (ops := ops) rfl rfl (fun a' w' ha' hw' => ?_) a w ha hw
      obtain ⟨i, hi, hz, hik, hib⟩ := hE.h
      subst hik hib
      obtain ⟨a1', cx', e1, hcx', hcase'⟩ := hsv w' hw'
      cases e1
      rcases hcase' with h0 | ⟨b', off', c', e'', fz', e2, hk2, hp2⟩
      · exact absurd h0 hys
      cases e2
      have hcells2 := Pat.cells henc hp2
      have hrun := run_append_nil (P := P) w' t ty e i z hU.h hi hz ⟨b, off, none⟩ ys.length cx (ys.flatMap enc) hfl (fun j u hj => by rw [add_none]; simp [World.cell?, hk2, hcells2 j u hj]) hpos (by simp at hm; omega) (by simp at hm; omega)
      rw [run_app (ha'.eval hx) (ha'.eval hy) hrun]
      have hge := grownCap_ge w' ys.length 0 e
      have hce : (ys.flatMap enc).toArray ++ Builtin.zeroCells z.cells (grownCap w' ys.length 0 e - ys.length) = (ys.flatMap enc ++ (Builtin.zeroCells z.cells (grownCap w' ys.length 0 e - ys.length)).toList).toArray := by
        apply Array.ext'; simp
      rw [hce]
      refine h _ _ (OW.row (b := w'.heap.size) (s := (Builtin.zeroCells z.cells (grownCap w' ys.length 0 e - ys.length)).toList) (cap := grownCap w' ys.length 0 e) ?_ (by simp at hm ⊢; omega)) _ _ (by simpa using ha'.put (Nat.le_of_ble_eq_true hd) _) ?_
      · simp only [List.nil_append, List.length_append, hfl, Array.length_toList, size_zeroCells, hzk]
        rw [← Nat.add_mul]; congr 1; omega
      · have hr' : RemL L [] L0 := hr
        have := (hw'.perm hr').drew.alloc (Ce (ys.flatMap enc ++ (Builtin.zeroCells z.cells (grownCap w' ys.length 0 e - ys.length)).toList) e)
        simpa using this
    · refine o_plain (F := F) (L := L) (w0 := w0) (D := D) (n := n) (r := r) (Q := Q) (ops := ops) rfl rfl (fun a' w' ha' hw' => ?_) a w ha hw
      obtain ⟨i, hi, hz, hik, hib⟩ := hE.h
      subst hik hib
      obtain ⟨a1', cx', e1, hcx', hcase'⟩ := hsv w' hw'
      cases e1
      rcases hcase' with h0 | ⟨b', off', c', e'', fz', e2, hk2, hp2⟩
      · exact absurd h0 hys
      cases e2
      have hcells2 := Pat.cells henc hp2
      have hnews : ∀ j u, (ys.flatMap enc)[j]? = some u → w'.cell? ((⟨b, off, none⟩ : Addr).add j) = some u := fun j u hj => by rw [add_none]; simp [World.cell?, hk2, hcells2 j u hj]
      have hwq : Rep w0 w' (⟨b0, Ce (xs.flatMap enc ++ s0) e, true⟩ :: L0) := hw'.perm hr
      have hb0 : w'.heap[b0]? = some (Ce (xs.flatMap enc ++ s0) e) := hwq.ok _ List.mem_cons_self
      by_cases hroom : xs.length + ys.length ≤ cap0
      · have hsz : (xs.flatMap enc ++ s0).toArray.size = cap0 * i.size := by simpa using h2
        have hmul : (xs.length + ys.length) * i.size ≤ cap0 * i.size := Nat.mul_le_mul_right _ hroom
        have hfit : xs.length * i.size + (ys.flatMap enc).length ≤ (xs.flatMap enc ++ s0).toArray.size := by rw [hsz, hfl]; rw [Nat.add_mul] at hmul; exact hmul
        have hone : ∀ u ∈ ys.flatMap enc, u.oneCell' = true := fun u hu => by
          obtain ⟨q, _, hq⟩ := List.mem_flatMap.1 hu
          exact (List.all_eq_true.1 (h1 q)) u hq
        have hrun := run_append_room (P := P) w' t ty e i hU.h hi b0 xs.length cap0 (xs.flatMap enc ++ s0).toArray hb0 ⟨b, off, none⟩ ys.length cx (ys.flatMap enc) hfl hnews hone hroom hfit
        rw [run_app (ha'.eval hx) (ha'.eval hy) hrun]
        have hcont : (xs.flatMap enc ++ s0).toArray.toList.take (xs.length * i.size) ++ ys.flatMap enc ++ (xs.flatMap enc ++ s0).toArray.toList.drop (xs.length * i.size + (ys.flatMap enc).length) = (xs ++ ys).flatMap enc ++ s0.drop (ys.flatMap enc).length := by
          simp only []
          rw [← hflx, List.take_left', List.drop_append, List.drop_of_length_le (by omega)]
          · simp
          · rfl
        rw [hcont]
        have hlen : xs.length + ys.length = (xs ++ ys).length := by simp
        rw [hlen]
        refine h _ _ (OW.row (b := b0) (s := s0.drop (ys.flatMap enc).length) (cap := cap0) ?_ (by simp; omega)) _ _ (ha'.put (Nat.le_of_ble_eq_true hd) _) (hwq.turn .hd rfl rfl rfl (by simp) (setRow_heap w' b0 _ _ e _ hb0) (fun k hk => setRow_other w' b0 k _ hk))
        have hls : (xs.flatMap enc ++ s0).length = (xs.flatMap enc).length + s0.length := by simp
        rw [hls] at h2
        rw [Nat.add_mul] at hmul
        simp only [List.flatMap_append, List.length_append, List.length_drop]
        omega
      · have hrun := run_append_grow (P := P) w' t ty e i z hU.h hi hz ⟨b0, 0, none⟩ xs.length cap0 (xs.flatMap enc) hflx
          (fun j u hj => by
            rw [add_none]
            have hlt := (List.getElem?_eq_some_iff.1 hj).1
            simp [World.cell?, hb0, List.getElem?_append_left hlt, hj]) ⟨b, off, none⟩ ys.length cx (ys.flatMap enc) hfl hnews (by omega) (by omega) (growslice_fits (by omega) hm.1)
        rw [run_app (ha'.eval hx) (ha'.eval hy) hrun]
        have hge := grownCap_ge w' (xs.length + ys.length) cap0 e
        have hce : (xs.flatMap enc).toArray ++ (ys.flatMap enc).toArray ++ Builtin.zeroCells z.cells (grownCap w' (xs.length + ys.length) cap0 e - (xs.length + ys.length)) = ((xs ++ ys).flatMap enc ++ (Builtin.zeroCells z.cells (grownCap w' (xs.length + ys.length) cap0 e - (xs.length + ys.length))).toList).toArray := by
          apply Array.ext'; simp
        rw [hce]
        have hdrop : Rep w0 w' L0 := hwq.sub (HSub.drop HSub.same)
        have hlen : xs.length + ys.length = (xs ++ ys).length := by simp
        refine h _ _ (OW.row (b := w'.heap.size) (s := (Builtin.zeroCells z.cells (grownCap w' (xs.length + ys.length) cap0 e - (xs.length + ys.length))).toList) (cap := grownCap w' (xs.length + ys.length) cap0 e) ?_ (by simp; omega)) _ _ (by rw [← hlen]; exact ha'.put (Nat.le_of_ble_eq_true hd) _) ?_
        · simp only [List.flatMap_append, List.length_append, hflx, hfl, Array.length_toList, size_zeroCells, hzk]
          rw [← Nat.add_mul, ← Nat.add_mul]; congr 1; omega
        · exact hdrop.drew.alloc _
/-- The same, the result written as a slice. -/
theorem o_appH {α : Type} {enc : α → List Value} {t e : TypeId} {k bytes : Nat} {z : Value} {x y : Operand} {v vy : Value} {xs ys : List α} {N : List Ent} (hU : TU P t (.slice e)) (hE : TE P e k bytes z) (hS : TS P e k) (hzk : z.cells.size = k) (henc : ∀ x, (enc x).length = k) (h1 : ∀ x, (enc x).all (·.oneCell') = true)
    (hx : ev F x = some v) (hy : ev F y = some vy) (hd : Nat.ble (d + 1) n = true) (hv : OW e k enc v xs N) (hr : RemL L N L0) (hsv : ∀ w, Rep w0 w L → SV w k enc vy ys)
    (hm : (xs.length + ys.length) * bytes ≤ 140737488355328 ∧ xs.length + ys.length ≤ 140737488355328)
    (h : ∀ a cap N', OW e k enc (.slice a (xs ++ ys).length cap) (xs ++ ys) N' → St n D w0 ((d, .slice a (xs ++ ys).length cap) :: F) (N' ++ L0) (WL r P ops Q rest)) :
    St n D w0 F L (WL r P ops Q (⟨some d, .call ⟨.builtin .append, #[x, y], #[t, t]⟩, ty, pos, af, none⟩ :: rest)) :=
  o_appG hU hE hS hzk henc h1 hx hy hd hv hr hsv hm (fun v' N' hO => by
    obtain ⟨a, cap, rfl, _, _⟩ := hO.open
    exact h a cap N' hO)
end
end Go.Sx
namespace Go.Sx
open Go Go.RowKit
section
variable {H : Type} {enc : TypeId × Value → H} {P : Program} {w : World} {t : TypeId} {cs : List Value}
theorem rd_slice {α : Type} {ea : α → List Value} {good : α → Prop} {e : TypeId} {k : Nat} (ht : P.underlying t = some (.slice e)) (hk : P.cellsOf e = k) (hk0 : 0 < k) (henc : ∀ x, (ea x).length = k)
    (dec : ∀ cs, Rd enc P w e cs → ∃ x, cs = ea x ∧ good x) (h : Rd enc P w t cs) : ∃ v xs, cs = [v] ∧ SV w k ea v xs ∧ ∀ x ∈ xs, good x := by
  rcases h.slice ht hk with rfl | ⟨a, len, cap, rfl, hlc, hcm, hel⟩
  · exact ⟨_, [], rfl, SV.nil, by simp⟩
  have each : ∀ i, i < cap → ∃ x, good x ∧ ∀ j u, (ea x)[j]? = some u → w.cell? ((a.add (i * k)).add j) = some u := fun i hi => by
    obtain ⟨l, h1, h2⟩ := hel i hi
    obtain ⟨_, h3⟩ := cells_get h1
    obtain ⟨x, rfl, hg⟩ := dec l h2
    exact ⟨x, hg, h3⟩
  have all : ∀ n, n ≤ cap → ∃ xs : List α, xs.length = n ∧ (∀ x ∈ xs, good x) ∧ ∀ i x, xs[i]? = some x → ∀ j u, (ea x)[j]? = some u → w.cell? ((a.add (i * k)).add j) = some u := by
    intro n
    induction n with
    | zero => exact fun _ => ⟨[], rfl, by simp, by simp⟩
    | succ n ih =>
      intro hn
      obtain ⟨xs, h1, h2, h3⟩ := ih (by omega)
      obtain ⟨x, hg, hx⟩ := each n (by omega)
      refine ⟨xs ++ [x], by simp [h1], fun y hy => ?_, fun i y hy => ?_⟩
      · rcases List.mem_append.1 hy with hy | hy
        · exact h2 y hy
        · simp at hy; subst hy; exact hg
      · by_cases hi : i < xs.length
        · rw [List.getElem?_append_left hi] at hy; exact h3 i y hy
        · rw [List.getElem?_append_right (by omega)] at hy
          have hi' : i = n := by
            have := (List.getElem?_eq_some_iff.1 hy).1
            simp at this; omega
          subst hi'
          rw [h1, Nat.sub_self] at hy
          simp at hy; subst hy; exact hx
  obtain ⟨xs, h1, h2, h3⟩ := all len hlc
  subst h1
  refine ⟨_, xs, rfl, ⟨some a, cap, rfl, ⟨hlc, ?_⟩, ?_⟩, h2⟩
  · have : maxLen = 9223372036854775807 := by decide
    omega
  · by_cases hx : xs = []
    · exact .inl hx
    · obtain ⟨x0, hx0⟩ : ∃ x, xs[0]? = some x := ⟨_, List.getElem?_eq_getElem (List.length_pos_iff.2 hx)⟩
      obtain ⟨u0, hu0⟩ : ∃ u, (ea x0)[0]? = some u := ⟨_, List.getElem?_eq_getElem (by rw [henc]; exact hk0)⟩
      have hc := h3 0 x0 hx0 0 u0 hu0
      obtain ⟨b, off, spot⟩ := a
      have hspot : spot = none ∧ ∃ c e' fz, w.heap[b]? = some (.cells c e' fz) := by
        simp only [World.cell?, Nat.zero_mul] at hc
        have hb : ((Addr.add ⟨b, off, spot⟩ 0).add 0).block = b := by unfold Addr.add; split <;> (try split) <;> simp_all
        have hs : ((Addr.add ⟨b, off, spot⟩ 0).add 0).spot = spot := by unfold Addr.add; split <;> (try split) <;> simp_all
        rw [hb, hs] at hc
        split at hc
        · rename_i c e' fz heq
          split at hc
          · cases hc
          · rename_i hsp
            exact ⟨by cases spot <;> simp_all, c, e', fz, heq⟩
        · cases hc
      obtain ⟨rfl, c, e', fz, hb⟩ := hspot
      refine .inr ⟨b, off, c, e', fz, rfl, hb, fun i x hx j u hj => ?_⟩
      have := h3 i x hx j u hj
      rw [add_none, add_none] at this
      simpa [World.cell?, hb] using this
end
end Go.Sx
namespace Go.Sx
open Go Go.RowKit
section
variable {P : Program} {b : Frame} {a : Act} {k : List Item} {cs : List Frame} {w : World}
end
section
variable {r : Option Nat} {P : Program} {n : Nat} {D : List Deferred} {w0 : World} {F : List (Nat × Value)} {L L0 : List Ent} {Q : Exit → Act → World → Prop} {ops : Array Oper}
variable {d : Tmp} {ty : TypeId} {pos : String} {af : Array Edge} {rest : List Oper}
/-- A loop that stands ahead of a round. -/
def WR (r : Option Nat) (P : Program) (c : Code) (Q : Exit → Act → World → Prop) : Act → World → Prop := fun a w => ∀ (b : Frame) (k : List Item) (cs : List Frame), b.roundOf = (FR r).round → (FR r).fn b.fn → (FR r).room (cs.length + 1 + 0) → ∃ e a' w', Q e a' w' ∧ ArrivesIn (Machine.fenced P (FR r)) P (lone (b.atR a (.code c :: .inLoop c :: k)) cs w) b k cs e a' w'
/-- A callee that turns a part G of what the caller holds, and leaves the rest; the callee may be a value. -/
theorem o_call_frame {f : FuncId} {fn : Func} [TC P f fn] {x : Operand} {caps : Array Value} {xs : List Operand} {vs : List Value} {ats : Array TypeId} {G : List Ent} {Φ : Value → List Ent → Prop}
    (hx : ev F x = some (.func (.func f) #[] caps)) (hd : Nat.ble (d + 1) n = true) (hxs : Evs F xs vs) (hr : RemL L G L0)
    (hc : ∀ w, Rep w0 w (G ++ L0) → Calls P f (vs.toArray ++ caps) w fun e w' => ∃ v G', e = .returned v ∧ Φ v G' ∧ Rep w0 w' (G' ++ L0))
    (h : ∀ v G', Φ v G' → St n D w0 ((d, v) :: F) (G' ++ L0) (WL r P ops Q rest)) :
    St n D w0 F L (WL r P ops Q (⟨some d, .call ⟨.value x, xs.toArray, ats⟩, ty, pos, af, none⟩ :: rest)) :=
  o_call (x := x) (caps := caps) (Φ := fun w v w' => ∃ G', Φ v G' ∧ Rep w0 w' (G' ++ L0)) hx hd hxs (fun w hw => by
    refine (hc w (hw.perm hr)).mono ?_
    rintro e w' ⟨v, G', rfl, hΦ, hw'⟩
    exact ⟨v, rfl, G', hΦ, hw'⟩) (fun w v hw a w' hΦ ha => by
      obtain ⟨G', h1, h2⟩ := hΦ
      exact h v G' h1 a w' ha h2)
end
/-- Entering a callee with all that the caller holds. -/
theorem f_enterF {P : Program} {n : Nat} {F : List (Nat × Value)} {L : List Ent} {f : FuncId} {fn : Func} {c : Code} {l : List Value} {w0 w : World} {R : Ending → World → Prop} (hf : P.funcs[f]? = some fn) (hb : fn.body = some c) (hn : fn.ntmps = n) (hl : Nat.ble l.length n = true)
    (hF : FArgs 0 l F) (hw : Rep w0 w L) (h : St n [] w0 F L (WC none P c (bodyPost P fn R))) : Calls P f l.toArray w R := by
  refine calls_of_FR (callsIn_of_wp hf hb trivial (h _ _ ⟨?_, rfl, fun t v ht => ?_⟩ hw))
  · have := Nat.le_of_ble_eq_true hl
    simp [hn]; omega
  · obtain ⟨_, h2⟩ := hF.lk t v ht
    simp only [Nat.sub_zero] at h2
    have hlt := (List.getElem?_eq_some_iff.1 h2).1
    rw [Array.getElem?_append_left (by simpa using hlt)]
    simpa using h2
theorem f_enterF2 {P : Program} {n : Nat} {L : List Ent} {f : FuncId} {fn : Func} {c : Code} {v0 v1 : Value} {w0 w : World} {R : Ending → World → Prop} (hf : P.funcs[f]? = some fn) (hb : fn.body = some c) (hn : fn.ntmps = n) (hl : Nat.ble 2 n = true) (hw : Rep w0 w L)
    (h : St n [] w0 [(0, v0), (1, v1)] L (WC none P c (bodyPost P fn R))) : Calls P f #[v0, v1] w R := f_enterF (l := [v0, v1]) hf hb hn hl (.cons (.cons FArgs.nil)) hw h
end Go.Sx
namespace Go.Sx
open Go Go.RowKit
/-- A slice, taken apart. -/
abbrev SD := Option Addr × Nat × Nat
@[reducible] def sdV (s : SD) : Value := .slice s.1 s.2.1 s.2.2
def encS (s : SD) : List Value := [sdV s]
theorem encS_len : ∀ x, (encS x).length = 1 := fun _ => rfl
section
variable {α : Type} {E : TypeId} {k : Nat} {enc : α → List Value}
/-- Each of the slices shows its list, in a row of the call's own. -/
inductive LL (E : TypeId) (k : Nat) (enc : α → List Value) : List SD → List (List α) → List Ent → Prop
  | nil : LL E k enc [] [] []
  | cons {s : SD} {xs : List α} {N : List Ent} {ss : List SD} {xss : List (List α)} {M : List Ent} : OW E k enc (sdV s) xs N → LL E k enc ss xss M → LL E k enc (s :: ss) (xs :: xss) (N ++ M)
theorem LL.len {ss : List SD} {xss : List (List α)} {M : List Ent} (h : LL E k enc ss xss M) : ss.length = xss.length := by
  induction h with
  | nil => rfl
  | cons _ _ ih => simp [ih]
theorem LL.own {ss : List SD} {xss : List (List α)} {M : List Ent} (h : LL E k enc ss xss M) : ∀ x ∈ M, x.own = true := by
  induction h with
  | nil => simp
  | cons h1 _ ih =>
    intro x hx
    rcases List.mem_append.1 hx with hx | hx
    · exact h1.own x hx
    · exact ih x hx
theorem LL.snoc {ss : List SD} {xss : List (List α)} {M : List Ent} (h : LL E k enc ss xss M) {s : SD} {xs : List α} {N : List Ent} (hs : OW E k enc (sdV s) xs N) : LL E k enc (ss ++ [s]) (xss ++ [xs]) (M ++ N) := by
  induction h with
  | nil => simpa using LL.cons hs LL.nil
  | cons h1 _ ih => simpa [List.append_assoc] using LL.cons h1 ih
/-- One of the lists, and what it may be turned into. -/
theorem LL.at {ss : List SD} {xss : List (List α)} {M : List Ent} (h : LL E k enc ss xss M) {i : Nat} {xs : List α} (hi : xss[i]? = some xs) :
    ∃ s N M1 M2, ss[i]? = some s ∧ OW E k enc (sdV s) xs N ∧ M = M1 ++ (N ++ M2) ∧ (∀ x ∈ M1, x.own = true) ∧ (∀ x ∈ M2, x.own = true) ∧
      ∀ s' xs' N', OW E k enc (sdV s') xs' N' → LL E k enc (ss.set i s') (xss.set i xs') (M1 ++ (N' ++ M2)) := by
  induction h generalizing i with
  | nil => simp at hi
  | @cons s xs0 N ss xss M h1 h2 ih =>
    cases i with
    | zero =>
      simp at hi; subst hi
      exact ⟨s, N, [], M, rfl, h1, rfl, by simp, h2.own, fun s' xs' N' h' => (LL.cons h' h2 : LL E k enc (s' :: ss) (xs' :: xss) (N' ++ M))⟩
    | succ i =>
      obtain ⟨s1, N1, M1, M2, g1, g2, g3, g4, g5, g6⟩ := ih (by simpa using hi)
      refine ⟨s1, N1, N ++ M1, M2, by simpa using g1, g2, by rw [g3, List.append_assoc], fun x hx => ?_, g5, fun s' xs' N' h' => ?_⟩
      · rcases List.mem_append.1 hx with hx | hx
        · exact h1.own x hx
        · exact g4 x hx
      · simpa [List.append_assoc] using LL.cons h1 (g6 s' xs' N' h')
/-- The lists seen by a reader. -/
def SL (w : World) (k : Nat) (enc : α → List Value) (ss : List SD) (xss : List (List α)) : Prop := ss.length = xss.length ∧ ∀ (i : Nat) (s : SD) (xs : List α), ss[i]? = some s → xss[i]? = some xs → SV w k enc (sdV s) xs
theorem LL.sl (henc : ∀ x, (enc x).length = k) {ss : List SD} {xss : List (List α)} {M L L0 : List Ent} {w0 w : World} (h : LL E k enc ss xss M) (hr : RemL L M L0) (hw : Rep w0 w L) : SL w k enc ss xss := by
  refine ⟨h.len, fun i s xs hs hx => ?_⟩
  obtain ⟨s1, N, M1, M2, g1, g2, rfl, _⟩ := h.at hx
  rw [hs] at g1; cases g1
  refine g2.sv henc (L := L) (L0 := M1 ++ (M2 ++ L0)) ?_ hw
  refine List.Perm.trans hr ?_
  simp only [List.append_assoc]
  exact List.perm_append_comm_assoc _ _ _
end
theorem SL.keep {α : Type} {k : Nat} {enc : α → List Value} {ss : List SD} {xss : List (List α)} {w0 w : World} {L : List Ent} (h : SL w0 k enc ss xss) (hw : Rep w0 w L) (ho : AO L) : SL w k enc ss xss :=
  ⟨h.1, fun i s xs hs hx => (h.2 i s xs hs hx).keep hw ho⟩
end Go.Sx
namespace Go.Sx
open Go Go.RowKit
/-- Elements appended to a row of the call's own, whatever lies beside it. -/
theorem run_app_row {α : Type} {enc : α → List Value} {P : Program} {t e ty : TypeId} {k bytes : Nat} {z v vy : Value} {xs ys : List α} {H X0 : List Ent} {w0 w : World} (hU : TU P t (.slice e)) (hE : TE P e k bytes z) (hS : TS P e k) (hzk : z.cells.size = k) (henc : ∀ x, (enc x).length = k) (h1 : ∀ x, (enc x).all (·.oneCell') = true)
    (hv : OW e k enc v xs H) (hw : Rep w0 w (H ++ X0)) (hsv : SV w k enc vy ys) (hm : (xs.length + ys.length) * bytes ≤ 140737488355328 ∧ xs.length + ys.length ≤ 140737488355328) :
    ∃ u w' N R, (Builtin.append_ #[t, t] ty #[v, vy]).run P w = .ok u w' ∧ OW e k enc u (xs ++ ys) N ∧ (∀ x ∈ R, x.own = true) ∧ IdsIn H (N ++ R) ∧ ∀ X, Rep w0 w (H ++ X) → Rep w0 w' (N ++ (R ++ X)) := by
  obtain ⟨a1, cx, rfl, hcx, hcase⟩ := hsv
  have hfl := flat_len henc ys
  have hflx := flat_len henc xs
  by_cases hys : ys = []
  · subst hys
    obtain ⟨a0, cap, rfl, hcap⟩ : ∃ a0 cap, v = .slice a0 xs.length cap ∧ xs.length ≤ cap := by
      rcases hv.parts with ⟨rfl, rfl, rfl⟩ | ⟨b, cap, s, rfl, rfl, h2, h3⟩
      · exact ⟨none, 0, rfl, Nat.le_refl _⟩
      · exact ⟨_, cap, rfl, h3.1⟩
    have hrun := run_append_none (P := P) (ty := ty) (a0 := a0) (a1 := a1) (cx := cx) (w := w) hU hcap hS
    exact ⟨_, _, H, [], by simpa using hrun, by simpa using hv, by simp, fun x hx => ⟨x, by simpa using hx, rfl⟩, fun X hX => by simpa using hX⟩
  · have hpos : 0 < ys.length := List.length_pos_iff.2 hys
    rcases hcase with h0 | ⟨b, off, c, e', fz, rfl, hk, hp⟩
    · exact absurd h0 hys
    have hcells := Pat.cells henc hp
    have hnews : ∀ j u, (ys.flatMap enc)[j]? = some u → w.cell? ((⟨b, off, none⟩ : Addr).add j) = some u := fun j u hj => by rw [add_none]; simp [World.cell?, hk, hcells j u hj]
    obtain ⟨i, hi, hz, hik, hib⟩ := hE.h
    subst hik hib
    rcases hv.parts with ⟨rfl, rfl, rfl⟩ | ⟨b0, cap0, s0, rfl, rfl, h2, h3⟩
    · have hrun := run_append_nil (P := P) w t ty e i z hU.h hi hz ⟨b, off, none⟩ ys.length cx (ys.flatMap enc) hfl hnews hpos (by simp at hm; omega) (by simp at hm; omega)
      have hge := grownCap_ge w ys.length 0 e
      have hce : (ys.flatMap enc).toArray ++ Builtin.zeroCells z.cells (grownCap w ys.length 0 e - ys.length) = (ys.flatMap enc ++ (Builtin.zeroCells z.cells (grownCap w ys.length 0 e - ys.length)).toList).toArray := by
        apply Array.ext'; simp
      rw [hce] at hrun
      refine ⟨_, _, [⟨w.heap.size, Ce (ys.flatMap enc ++ (Builtin.zeroCells z.cells (grownCap w ys.length 0 e - ys.length)).toList) e, true⟩], [], hrun, ?_, by simp, fun x hx => (by cases hx), fun X hX => ?_⟩
      · exact OW.row (b := w.heap.size) (s := (Builtin.zeroCells z.cells (grownCap w ys.length 0 e - ys.length)).toList) (cap := grownCap w ys.length 0 e) (by
          simp only [List.length_append, hfl, Array.length_toList, size_zeroCells, hzk]
          rw [← Nat.add_mul]; congr 1; omega) (by simp at hm ⊢; omega)
      · have := hX.drew.alloc (Ce (ys.flatMap enc ++ (Builtin.zeroCells z.cells (grownCap w ys.length 0 e - ys.length)).toList) e)
        simpa using this
    · have hb0 : w.heap[b0]? = some (Ce (xs.flatMap enc ++ s0) e) := hw.ok _ List.mem_cons_self
      by_cases hroom : xs.length + ys.length ≤ cap0
      · have hsz : (xs.flatMap enc ++ s0).toArray.size = cap0 * i.size := by simpa using h2
        have hmul : (xs.length + ys.length) * i.size ≤ cap0 * i.size := Nat.mul_le_mul_right _ hroom
        have hfit : xs.length * i.size + (ys.flatMap enc).length ≤ (xs.flatMap enc ++ s0).toArray.size := by rw [hsz, hfl]; rw [Nat.add_mul] at hmul; exact hmul
        have hone : ∀ u ∈ ys.flatMap enc, u.oneCell' = true := fun u hu => by
          obtain ⟨q, _, hq⟩ := List.mem_flatMap.1 hu
          exact (List.all_eq_true.1 (h1 q)) u hq
        have hrun := run_append_room (P := P) w t ty e i hU.h hi b0 xs.length cap0 (xs.flatMap enc ++ s0).toArray hb0 ⟨b, off, none⟩ ys.length cx (ys.flatMap enc) hfl hnews hone hroom hfit
        have hcont : (xs.flatMap enc ++ s0).toArray.toList.take (xs.length * i.size) ++ ys.flatMap enc ++ (xs.flatMap enc ++ s0).toArray.toList.drop (xs.length * i.size + (ys.flatMap enc).length) = (xs ++ ys).flatMap enc ++ s0.drop (ys.flatMap enc).length := by
          simp only []
          rw [← hflx, List.take_left', List.drop_append, List.drop_of_length_le (by omega)]
          · simp
          · rfl
        rw [hcont] at hrun
        have hlen : xs.length + ys.length = (xs ++ ys).length := by simp
        rw [hlen] at hrun
        refine ⟨_, _, [⟨b0, Ce ((xs ++ ys).flatMap enc ++ s0.drop (ys.flatMap enc).length) e, true⟩], [], hrun, ?_, by simp, fun x hx => ?_, fun X hX => ?_⟩
        · refine OW.row (b := b0) (s := s0.drop (ys.flatMap enc).length) (cap := cap0) ?_ (by simp; omega)
          have hls : (xs.flatMap enc ++ s0).length = (xs.flatMap enc).length + s0.length := by simp
          rw [hls] at h2
          rw [Nat.add_mul] at hmul
          simp only [List.flatMap_append, List.length_append, List.length_drop]
          omega
        · simp at hx; subst hx
          exact ⟨_, List.mem_cons_self, rfl⟩
        · exact hX.turn .hd rfl rfl rfl (by simp) (setRow_heap w b0 _ _ e _ hb0) (fun k hk => setRow_other w b0 k _ hk)
      · have hrun := run_append_grow (P := P) w t ty e i z hU.h hi hz ⟨b0, 0, none⟩ xs.length cap0 (xs.flatMap enc) hflx
          (fun j u hj => by
            rw [add_none]
            have hlt := (List.getElem?_eq_some_iff.1 hj).1
            simp [World.cell?, hb0, List.getElem?_append_left hlt, hj]) ⟨b, off, none⟩ ys.length cx (ys.flatMap enc) hfl hnews (by omega) (by omega) (growslice_fits (by omega) hm.1)
        have hge := grownCap_ge w (xs.length + ys.length) cap0 e
        have hce : (xs.flatMap enc).toArray ++ (ys.flatMap enc).toArray ++ Builtin.zeroCells z.cells (grownCap w (xs.length + ys.length) cap0 e - (xs.length + ys.length)) = ((xs ++ ys).flatMap enc ++ (Builtin.zeroCells z.cells (grownCap w (xs.length + ys.length) cap0 e - (xs.length + ys.length))).toList).toArray := by
          apply Array.ext'; simp
        rw [hce] at hrun
        have hlen : xs.length + ys.length = (xs ++ ys).length := by simp
        refine ⟨_, _, [⟨w.heap.size, Ce ((xs ++ ys).flatMap enc ++ (Builtin.zeroCells z.cells (grownCap w (xs.length + ys.length) cap0 e - (xs.length + ys.length))).toList) e, true⟩], [⟨b0, Ce (xs.flatMap enc ++ s0) e, true⟩], hrun, ?_, by simp, fun x hx => ?_, fun X hX => ?_⟩
        · rw [hlen]
          refine OW.row (b := w.heap.size) (s := (Builtin.zeroCells z.cells (grownCap w (xs ++ ys).length cap0 e - (xs ++ ys).length)).toList) (cap := grownCap w (xs ++ ys).length cap0 e) ?_ ⟨by rw [← hlen]; exact hge, by rw [← hlen]; omega⟩
          simp only [List.flatMap_append, List.length_append, hflx, hfl, Array.length_toList, size_zeroCells, hzk]
          rw [← Nat.add_mul, ← Nat.add_mul]; congr 1; omega
        · simp at hx; subst hx
          exact ⟨⟨b0, Ce (xs.flatMap enc ++ s0) e, true⟩, by simp, rfl⟩
        · exact hX.drew.alloc _
/-- What an append makes: the new slice's row, and what has fallen out of use. -/
def appφ {α : Type} (e : TypeId) (k : Nat) (enc : α → List Value) (zs : List α) : Value → List Ent → Prop := fun u M => ∃ a cap N R, u = .slice a zs.length cap ∧ OW e k enc (.slice a zs.length cap) zs N ∧ M = N ++ R ∧ (∀ x ∈ N, x.own = true) ∧ ∀ x ∈ R, x.own = true
section
variable {P : Program} {n : Nat} {D : List Deferred} {w0 : World} {F : List (Nat × Value)} {L : List Ent} {J J1 : Made} {Φ : Specs} {X : Act → World → Prop} {kq : Nat} {ops : Array Oper}
variable {d : Tmp} {ty : TypeId} {pos : String} {af : Array Edge} {rest : List Oper}
theorem ents_mid (J : Made) (H L : List Ent) : (ents J (H ++ L)).Perm (H ++ ents J L) := by
  rw [ents_eq', ents_eq', ← List.append_assoc, ← List.append_assoc]
  exact List.Perm.append_right L List.perm_append_comm
/-- Elements appended to what was laid aside. -/
theorem q_appA {α : Type} {enc : α → List Value} {t e : TypeId} {k bytes : Nat} {z : Value} {x y : Operand} {v vy : Value} {xs ys : List α} {H : List Ent} (hU : TU P t (.slice e)) (hE : TE P e k bytes z) (hS : TS P e k) (hzk : z.cells.size = k) (henc : ∀ x, (enc x).length = k) (h1 : ∀ x, (enc x).all (·.oneCell') = true)
    (hx : ev F x = some v) (hy : ev F y = some vy) (hΦ : Φ kq = some (appφ e k enc (xs ++ ys))) (hrs : Φ.rv = some (kq, H)) (hJ : SubJ ((anc ops).getD kq 0) J1 J) (hd : Nat.ble (d + 1) n = true) (hv : OW e k enc v xs H) (hsv : ∀ w, Rep w0 w (ents J1 L) → SV w k enc vy ys)
    (hm : (xs.length + ys.length) * bytes ≤ 140737488355328 ∧ xs.length + ys.length ≤ 140737488355328)
    (h : ∀ a cap N R, OW e k enc (.slice a (xs ++ ys).length cap) (xs ++ ys) N → (∀ x ∈ N, x.own = true) → (∀ x ∈ R, x.own = true) → St n D w0 ((d, .slice a (xs ++ ys).length cap) :: F) L (WQ P ops w0 L Φ X (kq + 1) ((kq, N ++ R) :: J) rest)) :
    St n D w0 F L (WQ P ops w0 L Φ X kq J (⟨some d, .call ⟨.builtin .append, #[x, y], #[t, t]⟩, ty, pos, af, none⟩ :: rest)) := by
  intro a w ha hw N hN hinh
  refine g_app (H := H) (wanted_none rfl) rfl rfl rfl rfl hΦ (by unfold resv; rw [hrs]; simp [isAp]) (fun w' hw' => ?_) (fun u M hu hinh' => ?_)
  · have hr1 := (hN.lm.rst hJ).rep hw'
    have hr2 := (hN.lm.rst hJ).rep (hw'.unmask hv.own)
    obtain ⟨u, w2, N2, R2, g1, g2, g3, g4, g5⟩ := run_app_row (ty := ty) hU hE hS hzk henc h1 hv (hr1.perm (ents_mid J1 H L)) (hsv w' hr2) hm
    rw [run_app (ha.eval hx) (ha.eval hy) g1]
    obtain ⟨a2, cap2, rfl, _, _⟩ := g2.open
    refine ⟨N2 ++ R2, ⟨a2, cap2, N2, R2, rfl, g2, rfl, g2.own, g3⟩, g4, fun x hx => ?_, fun X hX => ?_⟩
    · rcases List.mem_append.1 hx with hx | hx
      · exact g2.own x hx
      · exact g3 x hx
    · rw [List.append_assoc]; exact g5 X hX
  · obtain ⟨a2, cap2, N2, R2, rfl, g2, rfl, g3, g4⟩ := hu
    exact h a2 cap2 N2 R2 g2 g3 g4 _ w (ha.put (Nat.le_of_ble_eq_true hd) _) hw _ (hN.add _) hinh'
end
end Go.Sx
