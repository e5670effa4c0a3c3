/- Regions that draw their order, walked order by order: operations that yield the same in every order (they look at a part of the heap that nothing in the region touches) come first, at once; where others are ready, each of them is walked. No program in sight. -/
import Derived.Test.YteilhjglohahoaaSx8
import Derived.Test.YteilhjglohahoaaSxT
set_option linter.unusedVariables false
namespace Go.Sx
open Go Go.RowKit
/-- No way out but the normal one. -/
def QF : Exit → Act → World → Prop := fun _ _ _ => False
section
variable {P : Program} {ops : Array Oper} {w0 : World} {L0 : List Ent}
theorem uponIn_imp {F : Fence} {n : Nat} {o : Oper} {a : Act} {K K' : Act → World → Prop} {Q Q' : Exit → Act → World → Prop} {x : Result Next} (hK : ∀ a w, K a w → K' a w) (hQ : ∀ e, e ≠ .normal → ∀ a w, Q e a w → Q' e a w)
    (h : o.uponIn F n P a K Q x) : o.uponIn F n P a K' Q' x := by
  have hL : LetsOut Q → LetsOut Q' := fun ⟨a, w, h⟩ => ⟨a, w, hQ _ (by simp) a w h⟩
  cases x with
  | ok y w' =>
    cases y <;> simp only [Oper.uponIn] at h ⊢ <;> first
      | exact hK _ _ h
      | exact ⟨h.1, CallsIn.mono h.2 (fun e w'' he => by cases e <;> first | exact hK _ _ he | exact hQ _ (by simp) _ _ he | exact hL he)⟩
      | exact ⟨h.1, RowsIn.mono h.2 (fun _ _ he => hK _ _ he)⟩
      | exact ⟨h.1, RoundIn.mono h.2 (fun e w'' he => by cases e <;> first | exact hK _ _ he | exact hQ _ (by simp) _ _ he | exact hL he)⟩
  | halt y w' => cases y <;> simp only [Oper.uponIn] at h ⊢ <;> first | exact hQ _ (by simp) _ _ h | exact h
theorem wpOp_imp {F : Fence} {n i : Nat} {a : Act} {w : World} {K K' : Act → World → Prop} {Q Q' : Exit → Act → World → Prop} (hK : ∀ a w, K a w → K' a w) (hQ : ∀ e, e ≠ .normal → ∀ a w, Q e a w → Q' e a w)
    (h : wpOpIn F n P ops Q i K a w) : wpOpIn F n P ops Q' i K' a w := by
  unfold wpOpIn at *
  cases ho : ops[i]? with
  | none => simp only [ho] at h ⊢; exact hK _ _ h
  | some o =>
    simp only [ho] at h ⊢
    split
    · rename_i hw
      rw [if_pos hw] at h
      exact ⟨h.1, uponIn_imp hK hQ h.2⟩
    · rename_i hw
      rw [if_neg hw] at h
      exact ⟨h.1, hK _ _ h.2⟩
/-- All orders; behind each operation the part L0 lies as it lay. -/
def wpAnyK (P : Program) (ops : Array Oper) (w0 : World) (L0 : List Ent) (Q : Act → World → Prop) : Nat → Array Bool → Act → World → Prop
  | 0, listed, a, w => Region.ready .any ops listed = [] ∧ Q a w
  | f + 1, listed, a, w => (Region.ready .any ops listed = [] → Q a w) ∧ ∀ i ∈ Region.ready .any ops listed, wpOpIn (FR none) 0 P ops QF i (fun a' w' => Rep w0 w' L0 ∧ wpAnyK P ops w0 L0 Q f (listed.setIfInBounds i true) a' w') a w
theorem wpAnyK_in {Q : Exit → Act → World → Prop} : ∀ (f : Nat) (listed : Array Bool) (a : Act) (w : World), wpAnyK P ops w0 L0 (Q .normal) f listed a w → wpAnyIn (FR none) 0 P .any ops Q f listed a w
  | 0, _, _, _, h => h
  | f + 1, listed, a, w, h => ⟨h.1, fun i hi => wpOp_imp (fun a' w' h' => wpAnyK_in f _ a' w' h'.2) (fun e _ a w h => h.elim) (h.2 i hi)⟩
/-- In every world where L0 lies it yields v, and leaves the world. -/
def YK (P : Program) (ops : Array Oper) (w0 : World) (L0 : List Ent) (o : Oper) (v : Value) (a : Act) : Prop :=
  (Region.wanted o (yielded ops a.tmps) = true ∧ nd o.op = true ∧ ∀ w, Rep w0 w L0 → (execOp a.eval o).run P w = .ok (.value v) w) ∨ (Region.wanted o (yielded ops a.tmps) = false ∧ v = undef)
theorem YK.same {o : Oper} {v : Value} {a a' : Act} (h : YK P ops w0 L0 o v a) (he : execOp a'.eval o = execOp a.eval o) (hw : Region.wanted o (yielded ops a'.tmps) = Region.wanted o (yielded ops a.tmps)) : YK P ops w0 L0 o v a' := by
  unfold YK at *; rw [he, hw]; exact h
theorem YK.op {i : Nat} {o : Oper} {v : Value} {a : Act} {w : World} {K : Act → World → Prop} (h : YK P ops w0 L0 o v a) (hi : ops[i]? = some o) (hw : Rep w0 w L0) (hK : K (a.put o.dst v) w) : wpOpIn (FR none) 0 P ops QF i K a w := by
  unfold wpOpIn
  simp only [hi]
  rcases h with ⟨h1, h2, h3⟩ | ⟨h1, rfl⟩
  · rw [if_pos h1]
    refine ⟨fun _ _ => trivial, ?_⟩
    rw [show o.semAt (FR none).round a.eval = execOp a.eval o from semAt_nd h2, h3 w hw]
    exact hK
  · rw [if_neg (by simp [h1])]
    exact ⟨fun _ _ => trivial, hK⟩
/-- An operation whose value is known ahead may come behind another that does not look at it. -/
theorem YK.swap {j : Nat} {oi oj : Oper} {v : Value} (hj : ops[j]? = some oj) (hap : oi.apart ops oj = true) (hsi : ∀ cs b, oi.op ≠ .select cs b) (hsj : ∀ cs b, oj.op ≠ .select cs b) {K : Act → World → Prop} {a : Act} {w : World}
    (hy : YK P ops w0 L0 oi v a) (h : wpOpIn (FR none) 0 P ops QF j K (a.put oi.dst v) w) : wpOpIn (FR none) 0 P ops QF j (fun a' w' => YK P ops w0 L0 oi v a' ∧ K (a'.put oi.dst v) w') a w := by
  obtain ⟨h1, h2, h3⟩ := Oper.apart_spec hap
  have hk : ∀ (b : Act), YK P ops w0 L0 oi v b → ∀ u, YK P ops w0 L0 oi v (b.put oj.dst u) := fun b hb u => hb.same (execOp_put oi hsi b oj.dst u h3) (wanted_put oi b oj.dst u h3)
  have hd : ∀ d, YK P ops w0 L0 oi v { a with defers := d :: a.defers } := fun d => hy.same rfl rfl
  have hc : ∀ u, (a.put oi.dst v).put oj.dst u = (a.put oj.dst u).put oi.dst v := fun u => Act.put_comm a v u h2
  unfold wpOpIn at *
  simp only [hj] at *
  rw [wanted_put oj a oi.dst v h1] at h
  split
  · rename_i hw
    rw [if_pos hw] at h
    refine ⟨fun _ _ => trivial, ?_⟩
    have h := h.2
    rw [show (FR none).round = none from rfl, Oper.semAt_none, execOp_put oj hsj a oi.dst v h1] at h
    rw [show (FR none).round = none from rfl, Oper.semAt_none]
    cases hr : (execOp a.eval oj).run P w with
    | ok x w' =>
      rw [hr] at h
      cases x <;> simp only [Oper.uponIn] at h ⊢
      case value u => rw [hc] at h; exact ⟨hk a hy u, h⟩
      case skip => rw [hc] at h; exact ⟨hk a hy _, h⟩
      case defer d =>
        refine ⟨hk _ (hd d) _, ?_⟩
        rw [← Act.put_comm _ v undef h2, ← Act.put_defers]
        exact h
      case enter f args =>
        refine ⟨h.1, CallsIn.mono h.2 fun e w2 he => ?_⟩
        cases e <;> first | (simp only [] at he ⊢; rw [hc] at he; exact ⟨hk a hy _, he⟩) | exact he
      case row r args => exact ⟨h.1, RowsIn.mono h.2 fun u w2 he => by rw [hc] at he; exact ⟨hk a hy _, he⟩⟩
      case round l f tmps asg body =>
        refine ⟨h.1, RoundIn.mono h.2 fun e w2 he => ?_⟩
        cases e <;> first | (simp only [] at he ⊢; rw [hc] at he; exact ⟨hk a hy _, he⟩) | exact he
    | halt x w' =>
      rw [hr] at h
      cases x <;> simp only [Oper.uponIn] at h ⊢ <;> exact h
  · rename_i hw
    rw [if_neg hw] at h
    refine ⟨fun _ _ => trivial, hk a hy _, ?_⟩
    rw [← hc]; exact h.2
theorem wpOpIn_with {i : Nat} {a : Act} {w : World} {K K' : Act → World → Prop} (h : wpOpIn (FR none) 0 P ops QF i K a w) (hK : ∀ a w, K a w → K' a w) : wpOpIn (FR none) 0 P ops QF i K' a w := wpOp_imp hK (fun _ _ _ _ h => h) h
theorem wpAnyK_first {i : Nat} {oi : Oper} {v : Value} {Q : Act → World → Prop} (hi : ops[i]? = some oi) (hsel : ∀ (j : Nat) (o : Oper) cs b, ops[j]? = some o → o.op ≠ .select cs b) :
    ∀ (f : Nat) (listed : Array Bool) (a : Act) (w : World), (∀ j oj, ops[j]? = some oj → j ≠ i → listed.getD j true = false → (∀ e ∈ oj.after, Region.binds .any e = true → e.on ≠ i) → oi.apart ops oj = true) →
      i ∈ Region.ready .any ops listed → Rep w0 w L0 → YK P ops w0 L0 oi v a → wpAnyK P ops w0 L0 Q f (listed.setIfInBounds i true) (a.put oi.dst v) w → wpAnyK P ops w0 L0 Q (f + 1) listed a w := by
  intro f
  induction f with
  | zero =>
    intro listed a w _ hr hw hy H
    refine ⟨fun h => (by rw [h] at hr; cases hr), fun j hj => ?_⟩
    by_cases hji : j = i
    · subst hji; exact hy.op hi hw ⟨hw, H⟩
    · have := ready_mono hj hji
      rw [H.1] at this
      cases this
  | succ f ih =>
    intro listed a w hfree hr hw hy H
    refine ⟨fun h => (by rw [h] at hr; cases hr), fun j hj => ?_⟩
    by_cases hji : j = i
    · subst hji; exact hy.op hi hw ⟨hw, H⟩
    · obtain ⟨hjun, oj, hoj, hall⟩ := mem_ready.1 hj
      have hnot : ∀ e ∈ oj.after, Region.binds .any e = true → e.on ≠ i := fun e he hb heq => by
        have h1 := hall e he hb
        have h0 := (mem_ready.1 hr).1
        rw [heq] at h1
        rw [getD_both h0] at h1
        cases h1
      have h2 := hy.swap hoj (hfree j oj hoj hji hjun hnot) (fun cs b => hsel i oi cs b hi) (fun cs b => hsel j oj cs b hoj) (H.2 j (ready_mono hj hji))
      refine wpOpIn_with h2 fun a' w' h3 => ⟨h3.2.1, ih (listed.setIfInBounds j true) a' w' (fun k ok hk hki hun hno => hfree k ok hk hki ?_ hno) (ready_mono hr (Ne.symm hji)) h3.2.1 h3.1 ?_⟩
      · by_cases hjk : j = k
        · subst hjk; exact hjun
        · rw [getD_set_ne true hjk] at hun; exact hun
      · rw [Array.setIfInBounds_comm _ _ hji]
        exact h3.2.2
end
/-! ## the walk's own judgement -/
def lstB (n m : Nat) : Array Bool := ((List.range n).map m.testBit).toArray
theorem lstB_size (n m : Nat) : (lstB n m).size = n := by simp [lstB]
theorem lstB_set (n m k : Nat) : (lstB n m).setIfInBounds k true = lstB n (Nat.lor m (2 ^ k)) := by
  apply Array.ext
  · simp [lstB]
  · intro i h1 h2
    rw [Array.getElem_setIfInBounds (by simpa using h1)]
    have h3 : (Nat.lor m (2 ^ k)).testBit i = (m.testBit i || decide (k = i)) := by
      have : Nat.lor m (2 ^ k) = m ||| 2 ^ k := rfl
      rw [this, Nat.testBit_or, Nat.testBit_two_pow]
    simp only [lstB, List.getElem_toArray, List.getElem_map, List.getElem_range, h3]
    by_cases e : k = i
    · simp [e]
    · simp [e]
theorem lstB_zero (n : Nat) : Array.replicate n false = lstB n 0 := by
  apply Array.ext
  · simp [lstB]
  · intro i h1 h2
    simp [lstB]
def WB (P : Program) (l : List Oper) (w0 : World) (L0 : List Ent) (Q : Exit → Act → World → Prop) (f m : Nat) : Act → World → Prop :=
  fun a w => Rep w0 w L0 → wpAnyK P l.toArray w0 L0 (Q .normal) f (lstB l.length m) a w
def WF (P : Program) (l : List Oper) (w0 : World) (L0 : List Ent) (Q : Exit → Act → World → Prop) (f m : Nat) (o : Oper) : Act → World → Prop :=
  fun a w => Rep w0 w L0 → ∃ v, YK P l.toArray w0 L0 o v a ∧ wpAnyK P l.toArray w0 L0 (Q .normal) f (lstB l.length m) (a.put o.dst v) w
def QB (P : Program) (l : List Oper) (w0 : World) (L0 : List Ent) (Q : Exit → Act → World → Prop) (f m : Nat) : Exit → Act → World → Prop
  | .normal => fun a w => Rep w0 w L0 ∧ WB P l w0 L0 Q f m a w
  | _ => fun _ _ => False
def nthO : List Oper → Nat → Option Oper
  | [], _ => none
  | o :: _, 0 => some o
  | _ :: l, k + 1 => nthO l k
theorem nthO_eq : ∀ (l : List Oper) (k : Nat), nthO l k = l[k]?
  | [], _ => by simp [nthO]
  | o :: _, 0 => by simp [nthO]
  | _ :: l, k + 1 => by simp [nthO, nthO_eq l k]
def readyK (l : List Oper) (m : Nat) : List Nat := Region.ready .any l.toArray (lstB l.length m)
def pickB (l : List Oper) (m k : Nat) : Bool := Region.noSelect l.toArray && Region.free .any l.toArray (lstB l.length m) k && (readyK l m).contains k
section
variable {P : Program} {n : Nat} {D : List Deferred} {w0 : World} {F : List (Nat × Value)} {L L0 : List Ent} {Q : Exit → Act → World → Prop} {lq : List Oper} {fq mq : Nat} {ops : Array Oper}
variable {d : Tmp} {ty : TypeId} {pos : String} {af : Array Edge}
theorem c_regionK {id : Nat} {l : List Oper} (L0 : List Ent) (f : Nat) (hm : P.follows .mixedOrders = true) (hf : l.length = f) (hs : HSub L0 L) (h : St n D w0 F L (WB P l w0 L0 Q f 0)) : St n D w0 F L (WC none P (.region id l.toArray true) Q) := by
  intro a w ha hw
  show (Code.region id l.toArray true).wpIn (FR none) 0 P Q a w
  refine wpIn_region_any hm ?_
  have h1 := h a _ ha hw.drew (hw.drew.sub hs)
  have h2 := wpAnyK_in _ _ _ _ h1
  rw [← lstB_zero] at h2
  subst hf
  simpa using h2
theorem b_pick {m k m' : Nat} {o : Oper} (hk : pickB lq m k = true) (ho : nthO lq k = some o) (hm : Nat.lor m (2 ^ k) = m') (h : St n D w0 F L (WF P lq w0 L0 Q fq m' o)) : St n D w0 F L (WB P lq w0 L0 Q (fq + 1) m) := by
  intro a w ha hw h0
  simp only [pickB, Bool.and_eq_true] at hk
  obtain ⟨⟨h1, h2⟩, h3⟩ := hk
  obtain ⟨v, hy, hv⟩ := h a w ha hw h0
  rw [nthO_eq] at ho
  have hi : lq.toArray[k]? = some o := by simpa using ho
  refine wpAnyK_first hi (Region.noSelect_spec h1) fq _ a w (Region.free_spec hi h2) (by simpa [readyK] using h3) h0 hy ?_
  rw [lstB_set, hm]; exact hv
theorem wl_op {k m m' : Nat} {o : Oper} {a : Act} {w : World} (ho : nthO lq k = some o) (hm : Nat.lor m (2 ^ k) = m') (h : WL none P lq.toArray (QB P lq w0 L0 Q fq m') [o] a w) :
    wpOpIn (FR none) 0 P lq.toArray QF k (fun a' w' => Rep w0 w' L0 ∧ wpAnyK P lq.toArray w0 L0 (Q .normal) fq ((lstB lq.length m).setIfInBounds k true) a' w') a w := by
  rw [nthO_eq] at ho
  have hi : lq.toArray[k]? = some o := by simpa using ho
  have h' : wpListIn (FR none) 0 P lq.toArray (QB P lq w0 L0 Q fq m') [o] a w := h
  have hK : ∀ a' w', wpListIn (FR none) 0 P lq.toArray (QB P lq w0 L0 Q fq m') [] a' w' → Rep w0 w' L0 ∧ wpAnyK P lq.toArray w0 L0 (Q .normal) fq ((lstB lq.length m).setIfInBounds k true) a' w' := fun a' w' g => by
    have g' : Rep w0 w' L0 ∧ WB P lq w0 L0 Q fq m' a' w' := g
    rw [lstB_set, hm]
    exact ⟨g'.1, g'.2 g'.1⟩
  unfold wpOpIn
  simp only [hi]
  simp only [wpListIn] at h'
  split
  · rename_i hw
    rw [if_pos hw] at h'
    exact ⟨h'.1, uponIn_imp hK (fun e he a w g => by cases e <;> first | exact absurd rfl he | exact g) h'.2⟩
  · rename_i hw
    rw [if_neg hw] at h'
    exact ⟨h'.1, hK _ _ h'.2⟩
theorem b_split1 {m k1 m1 : Nat} {o1 : Oper} (hr : readyK lq m = [k1]) (ho1 : nthO lq k1 = some o1) (hm1 : Nat.lor m (2 ^ k1) = m1) (h1 : St n D w0 F L (WL none P lq.toArray (QB P lq w0 L0 Q fq m1) [o1])) : St n D w0 F L (WB P lq w0 L0 Q (fq + 1) m) := by
  intro a w ha hw h0
  refine ⟨fun h => (by rw [readyK] at hr; rw [hr] at h; cases h), fun i hi => ?_⟩
  rw [readyK] at hr
  rw [hr] at hi
  simp only [List.mem_cons, List.not_mem_nil, or_false] at hi
  subst hi
  exact wl_op ho1 hm1 (h1 a w ha hw)
theorem b_split2 {m k1 m1 k2 m2 : Nat} {o1 o2 : Oper} (hr : readyK lq m = [k1, k2]) (ho1 : nthO lq k1 = some o1) (hm1 : Nat.lor m (2 ^ k1) = m1) (ho2 : nthO lq k2 = some o2) (hm2 : Nat.lor m (2 ^ k2) = m2) (h1 : St n D w0 F L (WL none P lq.toArray (QB P lq w0 L0 Q fq m1) [o1])) (h2 : St n D w0 F L (WL none P lq.toArray (QB P lq w0 L0 Q fq m2) [o2])) : St n D w0 F L (WB P lq w0 L0 Q (fq + 1) m) := by
  intro a w ha hw h0
  refine ⟨fun h => (by rw [readyK] at hr; rw [hr] at h; cases h), fun i hi => ?_⟩
  rw [readyK] at hr
  rw [hr] at hi
  simp only [List.mem_cons, List.not_mem_nil, or_false] at hi
  rcases hi with rfl | rfl
  · exact wl_op ho1 hm1 (h1 a w ha hw)
  · exact wl_op ho2 hm2 (h2 a w ha hw)
theorem b_split3 {m k1 m1 k2 m2 k3 m3 : Nat} {o1 o2 o3 : Oper} (hr : readyK lq m = [k1, k2, k3]) (ho1 : nthO lq k1 = some o1) (hm1 : Nat.lor m (2 ^ k1) = m1) (ho2 : nthO lq k2 = some o2) (hm2 : Nat.lor m (2 ^ k2) = m2) (ho3 : nthO lq k3 = some o3) (hm3 : Nat.lor m (2 ^ k3) = m3)
    (h1 : St n D w0 F L (WL none P lq.toArray (QB P lq w0 L0 Q fq m1) [o1])) (h2 : St n D w0 F L (WL none P lq.toArray (QB P lq w0 L0 Q fq m2) [o2])) (h3 : St n D w0 F L (WL none P lq.toArray (QB P lq w0 L0 Q fq m3) [o3])) : St n D w0 F L (WB P lq w0 L0 Q (fq + 1) m) := by
  intro a w ha hw h0
  refine ⟨fun h => (by rw [readyK] at hr; rw [hr] at h; cases h), fun i hi => ?_⟩
  rw [readyK] at hr
  rw [hr] at hi
  simp only [List.mem_cons, List.not_mem_nil, or_false] at hi
  rcases hi with rfl | rfl | rfl
  · exact wl_op ho1 hm1 (h1 a w ha hw)
  · exact wl_op ho2 hm2 (h2 a w ha hw)
  · exact wl_op ho3 hm3 (h3 a w ha hw)
theorem b_in (hs : HSub L0 L) (h : St n D w0 F L (WB P lq w0 L0 Q fq mq)) : St n D w0 F L (QB P lq w0 L0 Q fq mq .normal) := fun a w ha hw => ⟨hw.sub hs, h a w ha hw⟩
theorem b_done (hr : (readyK lq mq).isEmpty = true) (h : St n D w0 F L (Q .normal)) : St n D w0 F L (WB P lq w0 L0 Q 0 mq) := fun a w ha hw h0 => ⟨by rw [readyK] at hr; simpa using hr, h a w ha hw⟩
/-! ## operations that come at once -/
theorem b_val {op : Op} {v : Value} (hnd : nd op = true) (hd : Nat.ble (d + 1) n = true)
    (hv : ∀ a w, Fr n D F a → Rep w0 w L0 → (execOp a.eval ⟨some d, op, ty, pos, af, none⟩).run P w = .ok (.value v) w)
    (h : St n D w0 ((d, v) :: F) L (WB P lq w0 L0 Q fq mq)) : St n D w0 F L (WF P lq w0 L0 Q fq mq (⟨some d, op, ty, pos, af, none⟩)) :=
  fun a w ha hw h0 => ⟨v, .inl ⟨wanted_none rfl, hnd, fun w' h' => hv a w' ha h'⟩, h _ w (ha.put (Nat.le_of_ble_eq_true hd) v) hw h0⟩
theorem f_run {d : Option Tmp} {op : Op} {j : Nat} {b : Bool} {c : Bool} (hj : gv lq.toArray F j = some (.bool c)) (hc : c = b)
    (h : St n D w0 F L (WF P lq w0 L0 Q fq mq ⟨d, op, ty, pos, af, none⟩)) : St n D w0 F L (WF P lq w0 L0 Q fq mq ⟨d, op, ty, pos, af, some (j, b)⟩) := by
  intro a w ha hw h0
  subst hc
  obtain ⟨v, hy, hv⟩ := h a w ha hw h0
  refine ⟨v, ?_, hv⟩
  have hw1 : Region.wanted ⟨d, op, ty, pos, af, some (j, c)⟩ (yielded lq.toArray a.tmps) = true := by simp [Region.wanted, yielded_of ha hj]
  rcases hy with ⟨_, g2, g3⟩ | ⟨g1, _⟩
  · exact .inl ⟨hw1, g2, g3⟩
  · rw [wanted_none rfl] at g1; cases g1
theorem f_skip {op : Op} {j : Nat} {b : Bool} {c : Bool} (hj : gv lq.toArray F j = some (.bool c)) (hc : c = !b) (hd : Nat.ble (d + 1) n = true)
    (h : St n D w0 ((d, undef) :: F) L (WB P lq w0 L0 Q fq mq)) : St n D w0 F L (WF P lq w0 L0 Q fq mq ⟨some d, op, ty, pos, af, some (j, b)⟩) := by
  intro a w ha hw h0
  subst hc
  exact ⟨undef, .inr ⟨by simp [Region.wanted, yielded_of ha hj], rfl⟩, h _ w (ha.put (Nat.le_of_ble_eq_true hd) undef) hw h0⟩
theorem f_skip_undef {op : Op} {j : Nat} {b : Bool} (hj : gv lq.toArray F j = some undef) (hd : Nat.ble (d + 1) n = true)
    (h : St n D w0 ((d, undef) :: F) L (WB P lq w0 L0 Q fq mq)) : St n D w0 F L (WF P lq w0 L0 Q fq mq ⟨some d, op, ty, pos, af, some (j, b)⟩) := by
  intro a w ha hw h0
  exact ⟨undef, .inr ⟨by simp [Region.wanted, yielded_undef ha hj], rfl⟩, h _ w (ha.put (Nat.le_of_ble_eq_true hd) undef) hw h0⟩
theorem f_split {d : Option Tmp} {op : Op} {j : Nat} {b : Bool} {c : Bool} (hj : gv lq.toArray F j = some (.bool c))
    (ht : c = true → St n D w0 F L (WF P lq w0 L0 Q fq mq ⟨d, op, ty, pos, af, some (j, b)⟩)) (hf : c = false → St n D w0 F L (WF P lq w0 L0 Q fq mq ⟨d, op, ty, pos, af, some (j, b)⟩)) :
    St n D w0 F L (WF P lq w0 L0 Q fq mq ⟨d, op, ty, pos, af, some (j, b)⟩) := by
  cases c
  · exact hf rfl
  · exact ht rfl
theorem f_split_d {d : Option Tmp} {op : Op} {j : Nat} {b : Bool} {p : Prop} {_ : Decidable p} (hj : gv lq.toArray F j = some (.bool (decide p)))
    (ht : p → St n D w0 F L (WF P lq w0 L0 Q fq mq ⟨d, op, ty, pos, af, some (j, b)⟩)) (hf : ¬ p → St n D w0 F L (WF P lq w0 L0 Q fq mq ⟨d, op, ty, pos, af, some (j, b)⟩)) :
    St n D w0 F L (WF P lq w0 L0 Q fq mq ⟨d, op, ty, pos, af, some (j, b)⟩) := f_split hj (fun h => ht (of_decide_eq_true h)) (fun h => hf (of_decide_eq_false h))
theorem f_split_B {d : Option Tmp} {op : Op} {j : Nat} {b : Bool} {p : Prop} (hj : gv lq.toArray F j = some (.bool (B p)))
    (ht : p → St n D w0 F L (WF P lq w0 L0 Q fq mq ⟨d, op, ty, pos, af, some (j, b)⟩)) (hf : ¬ p → St n D w0 F L (WF P lq w0 L0 Q fq mq ⟨d, op, ty, pos, af, some (j, b)⟩)) :
    St n D w0 F L (WF P lq w0 L0 Q fq mq ⟨d, op, ty, pos, af, some (j, b)⟩) := f_split hj (fun h => ht (of_B h)) (fun h => hf (of_not_B h))
end
end Go.Sx
