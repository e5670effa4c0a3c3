/- A part of the proofs of this seat: a small logic of walks, plain laws, and what some of the program's functions compute, shown by walks through their code. Conditions: the hypotheses that each theorem names. -/
import Derived.Test.YtdahckhlfldkkaaZPSmall1
import Derived.WalkKit
import Derived.ProofKit
import Derived.OpenShut
import Derived.ShutString
import Derived.ChangeOld
import Derived.Below
import Derived.Scope
set_option linter.unusedSimpArgs false
set_option linter.unusedVariables false
set_option linter.unusedSectionVars false
namespace Go.Sx
open Go Go.RowKit
def QF : Exit → Act → World → Prop := fun _ _ _ => False
section
variable {P : Program} {ops : Array Oper} {w0 : World} {L0 : List Ent}
theorem zS7 {F : Fence} {n : Nat} {o : Oper} {a : Act} {K K' : Act → World → Prop} {Q Q' : Exit → Act → World → Prop} {x : Result Next} (hK : ∀ a w, K a w → K' a w) (hQ : ∀ e, e ≠ .normal → ∀ a w, Q e a w → Q' e a w)
    (h : o.uponIn F n P a K Q x) : o.uponIn F n P a K' Q' x := by
  have hL : LetsOut Q → LetsOut Q' := fun ⟨a, w, h⟩ => ⟨a, w, hQ _ (by simp) a w h⟩
  cases x with
  | ok y w' =>
    cases y <;> simp only [Oper.uponIn] at h ⊢ <;> first
      | exact hK _ _ h
      | exact ⟨h.1, CallsIn.mono h.2 (fun e w'' he => by cases e <;> first | exact hK _ _ he | exact hQ _ (by simp) _ _ he | exact hL he)⟩
      | exact ⟨h.1, RowsIn.mono h.2 (fun _ _ he => hK _ _ he)⟩
      | exact ⟨h.1, RoundIn.mono h.2 (fun e w'' he => by cases e <;> first | exact hK _ _ he | exact hQ _ (by simp) _ _ he | exact hL he)⟩
  | halt y w' => cases y <;> simp only [Oper.uponIn] at h ⊢ <;> first | exact hQ _ (by simp) _ _ h | exact h
theorem yh8 {F : Fence} {n i : Nat} {a : Act} {w : World} {K K' : Act → World → Prop} {Q Q' : Exit → Act → World → Prop} (hK : ∀ a w, K a w → K' a w) (hQ : ∀ e, e ≠ .normal → ∀ a w, Q e a w → Q' e a w)
    (h : wpOpIn F n P ops Q i K a w) : wpOpIn F n P ops Q' i K' a w := by
  unfold wpOpIn at *
  cases ho : ops[i]? with
  | none => simp only [ho] at h ⊢; exact hK _ _ h
  | some o =>
    simp only [ho] at h ⊢
    split
    · rename_i hw
      rw [if_pos hw] at h
      exact ⟨h.1, zS7 hK hQ h.2⟩
    · rename_i hw
      rw [if_neg hw] at h
      exact ⟨h.1, hK _ _ h.2⟩
def zD1 (P : Program) (ops : Array Oper) (w0 : World) (L0 : List Ent) (Q : Act → World → Prop) : Nat → Array Bool → Act → World → Prop
  | 0, listed, a, w => Region.ready .any ops listed = [] ∧ Q a w
  | f + 1, listed, a, w => (Region.ready .any ops listed = [] → Q a w) ∧ ∀ i ∈ Region.ready .any ops listed, wpOpIn (FR none) 0 P ops QF i (fun a' w' => Rep w0 w' L0 ∧ zD1 P ops w0 L0 Q f (listed.setIfInBounds i true) a' w') a w
theorem zY2 {Q : Exit → Act → World → Prop} : ∀ (f : Nat) (listed : Array Bool) (a : Act) (w : World), zD1 P ops w0 L0 (Q .normal) f listed a w → wpAnyIn (FR none) 0 P .any ops Q f listed a w
  | 0, _, _, _, h => h
  | f + 1, listed, a, w, h => ⟨h.1, fun i hi => yh8 (fun a' w' h' => zY2 f _ a' w' h'.2) (fun e _ a w h => h.elim) (h.2 i hi)⟩
def YK (P : Program) (ops : Array Oper) (w0 : World) (L0 : List Ent) (o : Oper) (v : Value) (a : Act) : Prop :=
  (Region.wanted o (yielded ops a.tmps) = true ∧ nd o.op = true ∧ ∀ w, Rep w0 w L0 → (execOp a.eval o).run P w = .ok (.value v) w) ∨ (Region.wanted o (yielded ops a.tmps) = false ∧ v = undef)
theorem YK.same {o : Oper} {v : Value} {a a' : Act} (h : YK P ops w0 L0 o v a) (he : execOp a'.eval o = execOp a.eval o) (hw : Region.wanted o (yielded ops a'.tmps) = Region.wanted o (yielded ops a.tmps)) : YK P ops w0 L0 o v a' := by
  unfold YK at *; rw [he, hw]; exact h
theorem YK.op {i : Nat} {o : Oper} {v : Value} {a : Act} {w : World} {K : Act → World → Prop} (h : YK P ops w0 L0 o v a) (hi : ops[i]? = some o) (hw : Rep w0 w L0) (hK : K (a.put o.dst v) w) : wpOpIn (FR none) 0 P ops QF i K a w := by
  unfold wpOpIn
  simp only [hi]
  rcases h with ⟨h1, h2, h3⟩ | ⟨h1, rfl⟩
  · rw [if_pos h1]
    refine ⟨fun _ _ => trivial, ?_⟩
    rw [show o.semAt (FR none).round a.eval = execOp a.eval o from zI7 h2, h3 w hw]
    exact hK
  · rw [if_neg (by simp [h1])]
    exact ⟨fun _ _ => trivial, hK⟩
theorem YK.swap {j : Nat} {oi oj : Oper} {v : Value} (hj : ops[j]? = some oj) (hap : oi.apart ops oj = true) (hsi : ∀ cs b, oi.op ≠ .select cs b) (hsj : ∀ cs b, oj.op ≠ .select cs b) {K : Act → World → Prop} {a : Act} {w : World}
    (hy : YK P ops w0 L0 oi v a) (h : wpOpIn (FR none) 0 P ops QF j K (a.put oi.dst v) w) : wpOpIn (FR none) 0 P ops QF j (fun a' w' => YK P ops w0 L0 oi v a' ∧ K (a'.put oi.dst v) w') a w := by
  obtain ⟨h1, h2, h3⟩ := Oper.apart_spec hap
  have hk : ∀ (b : Act), YK P ops w0 L0 oi v b → ∀ u, YK P ops w0 L0 oi v (b.put oj.dst u) := fun b hb u => hb.same (execOp_put oi hsi b oj.dst u h3) (wanted_put oi b oj.dst u h3)
  have hd : ∀ d, YK P ops w0 L0 oi v { a with defers := d :: a.defers } := fun d => hy.same rfl rfl
  have hc : ∀ u, (a.put oi.dst v).put oj.dst u = (a.put oj.dst u).put oi.dst v := fun u => Act.put_comm a v u h2
  unfold wpOpIn at *
  simp only [hj] at *
  rw [wanted_put oj a oi.dst v h1] at h
  split
  · rename_i hw
    rw [if_pos hw] at h
    refine ⟨fun _ _ => trivial, ?_⟩
    have h := h.2
    rw [show (FR none).round = none from rfl, Oper.semAt_none, execOp_put oj hsj a oi.dst v h1] at h
    rw [show (FR none).round = none from rfl, Oper.semAt_none]
    cases hr : (execOp a.eval oj).run P w with
    | ok x w' =>
      rw [hr] at h
      cases x <;> simp only [Oper.uponIn] at h ⊢
      case value u => rw [hc] at h; exact ⟨hk a hy u, h⟩
      case skip => rw [hc] at h; exact ⟨hk a hy _, h⟩
      case defer d =>
        refine ⟨hk _ (hd d) _, ?_⟩
        rw [← Act.put_comm _ v undef h2, ← Act.put_defers]
        exact h
      case enter f args =>
        refine ⟨h.1, CallsIn.mono h.2 fun e w2 he => ?_⟩
        cases e <;> first | (simp only [] at he ⊢; rw [hc] at he; exact ⟨hk a hy _, he⟩) | exact he
      case row r args => exact ⟨h.1, RowsIn.mono h.2 fun u w2 he => by rw [hc] at he; exact ⟨hk a hy _, he⟩⟩
      case round l f tmps asg body =>
        refine ⟨h.1, RoundIn.mono h.2 fun e w2 he => ?_⟩
        cases e <;> first | (simp only [] at he ⊢; rw [hc] at he; exact ⟨hk a hy _, he⟩) | exact he
    | halt x w' =>
      rw [hr] at h
      cases x <;> simp only [Oper.uponIn] at h ⊢ <;> exact h
  · rename_i hw
    rw [if_neg hw] at h
    refine ⟨fun _ _ => trivial, hk a hy _, ?_⟩
    rw [← hc]; exact h.2
theorem yh7 {i : Nat} {a : Act} {w : World} {K K' : Act → World → Prop} (h : wpOpIn (FR none) 0 P ops QF i K a w) (hK : ∀ a w, K a w → K' a w) : wpOpIn (FR none) 0 P ops QF i K' a w := yh8 hK (fun _ _ _ _ h => h) h
theorem yb8 {i : Nat} {oi : Oper} {v : Value} {Q : Act → World → Prop} (hi : ops[i]? = some oi) (hsel : ∀ (j : Nat) (o : Oper) cs b, ops[j]? = some o → o.op ≠ .select cs b) :
    ∀ (f : Nat) (listed : Array Bool) (a : Act) (w : World), (∀ j oj, ops[j]? = some oj → j ≠ i → listed.getD j true = false → (∀ e ∈ oj.after, Region.binds .any e = true → e.on ≠ i) → oi.apart ops oj = true) →
      i ∈ Region.ready .any ops listed → Rep w0 w L0 → YK P ops w0 L0 oi v a → zD1 P ops w0 L0 Q f (listed.setIfInBounds i true) (a.put oi.dst v) w → zD1 P ops w0 L0 Q (f + 1) listed a w := by
  intro f
  induction f with
  | zero =>
    intro listed a w _ hr hw hy H
    refine ⟨fun h => (by rw [h] at hr; cases hr), fun j hj => ?_⟩
    by_cases hji : j = i
    · subst hji; exact hy.op hi hw ⟨hw, H⟩
    · have := ready_mono hj hji
      rw [H.1] at this
      cases this
  | succ f ih =>
    intro listed a w hfree hr hw hy H
    refine ⟨fun h => (by rw [h] at hr; cases hr), fun j hj => ?_⟩
    by_cases hji : j = i
    · subst hji; exact hy.op hi hw ⟨hw, H⟩
    · obtain ⟨hjun, oj, hoj, hall⟩ := mem_ready.1 hj
      have hnot : ∀ e ∈ oj.after, Region.binds .any e = true → e.on ≠ i := fun e he hb heq => by
        have h1 := hall e he hb
        have h0 := (mem_ready.1 hr).1
        rw [heq] at h1
        rw [getD_both h0] at h1
        cases h1
      have h2 := hy.swap hoj (hfree j oj hoj hji hjun hnot) (fun cs b => hsel i oi cs b hi) (fun cs b => hsel j oj cs b hoj) (H.2 j (ready_mono hj hji))
      refine yh7 h2 fun a' w' h3 => ⟨h3.2.1, ih (listed.setIfInBounds j true) a' w' (fun k ok hk hki hun hno => hfree k ok hk hki ?_ hno) (ready_mono hr (Ne.symm hji)) h3.2.1 h3.1 ?_⟩
      · by_cases hjk : j = k
        · subst hjk; exact hjun
        · rw [getD_set_ne true hjk] at hun; exact hun
      · rw [Array.setIfInBounds_comm _ _ hji]
        exact h3.2.2
end
def zK5 (n m : Nat) : Array Bool := ((List.range n).map m.testBit).toArray
theorem ye0 (n m k : Nat) : (zK5 n m).setIfInBounds k true = zK5 n (Nat.lor m (2 ^ k)) := by
  apply Array.ext
  · simp [zK5]
  · intro i h1 h2
    rw [Array.getElem_setIfInBounds (by simpa using h1)]
    have h3 : (Nat.lor m (2 ^ k)).testBit i = (m.testBit i || decide (k = i)) := by
      have : Nat.lor m (2 ^ k) = m ||| 2 ^ k := rfl
      rw [this, Nat.testBit_or, Nat.testBit_two_pow]
    simp only [zK5, List.getElem_toArray, List.getElem_map, List.getElem_range, h3]
    by_cases e : k = i
    · simp [e]
    · simp [e]
theorem yq6 (n : Nat) : Array.replicate n false = zK5 n 0 := by
  apply Array.ext
  · simp [zK5]
  · intro i h1 h2
    simp [zK5]
def WB (P : Program) (l : List Oper) (w0 : World) (L0 : List Ent) (Q : Exit → Act → World → Prop) (f m : Nat) : Act → World → Prop :=
  fun a w => Rep w0 w L0 → zD1 P l.toArray w0 L0 (Q .normal) f (zK5 l.length m) a w
def WF (P : Program) (l : List Oper) (w0 : World) (L0 : List Ent) (Q : Exit → Act → World → Prop) (f m : Nat) (o : Oper) : Act → World → Prop :=
  fun a w => Rep w0 w L0 → ∃ v, YK P l.toArray w0 L0 o v a ∧ zD1 P l.toArray w0 L0 (Q .normal) f (zK5 l.length m) (a.put o.dst v) w
def QB (P : Program) (l : List Oper) (w0 : World) (L0 : List Ent) (Q : Exit → Act → World → Prop) (f m : Nat) : Exit → Act → World → Prop
  | .normal => fun a w => Rep w0 w L0 ∧ WB P l w0 L0 Q f m a w
  | _ => fun _ _ => False
def zB9 : List Oper → Nat → Option Oper
  | [], _ => none
  | o :: _, 0 => some o
  | _ :: l, k + 1 => zB9 l k
theorem zZ7 : ∀ (l : List Oper) (k : Nat), zB9 l k = l[k]?
  | [], _ => by simp [zB9]
  | o :: _, 0 => by simp [zB9]
  | _ :: l, k + 1 => by simp [zB9, zZ7 l k]
def zm2 (l : List Oper) (m : Nat) : List Nat := Region.ready .any l.toArray (zK5 l.length m)
def yH2 (l : List Oper) (m k : Nat) : Bool := Region.noSelect l.toArray && Region.free .any l.toArray (zK5 l.length m) k && (zm2 l m).contains k
section
variable {P : Program} {n : Nat} {D : List Deferred} {w0 : World} {F : List (Nat × Value)} {L L0 : List Ent} {Q : Exit → Act → World → Prop} {lq : List Oper} {fq mq : Nat} {ops : Array Oper}
variable {d : Tmp} {ty : TypeId} {pos : String} {af : Array Edge}
theorem zw1 {id : Nat} {l : List Oper} (L0 : List Ent) (f : Nat) (hm : P.follows .mixedOrders = true) (hf : l.length = f) (hs : HSub L0 L) (h : St n D w0 F L (WB P l w0 L0 Q f 0)) : St n D w0 F L (WC none P (.region id l.toArray true) Q) := by
  intro a w ha hw
  show (Code.region id l.toArray true).wpIn (FR none) 0 P Q a w
  refine wpIn_region_any hm ?_
  have h1 := h a _ ha hw.drew (hw.drew.sub hs)
  have h2 := zY2 _ _ _ _ h1
  rw [← yq6] at h2
  subst hf
  simpa using h2
theorem i8 {m k m' : Nat} {o : Oper} (hk : yH2 lq m k = true) (ho : zB9 lq k = some o) (hm : Nat.lor m (2 ^ k) = m') (h : St n D w0 F L (WF P lq w0 L0 Q fq m' o)) : St n D w0 F L (WB P lq w0 L0 Q (fq + 1) m) := by
  intro a w ha hw h0
  simp only [yH2, Bool.and_eq_true] at hk
  obtain ⟨⟨h1, h2⟩, h3⟩ := hk
  obtain ⟨v, hy, hv⟩ := h a w ha hw h0
  rw [zZ7] at ho
  have hi : lq.toArray[k]? = some o := by simpa using ho
  refine yb8 hi (Region.noSelect_spec h1) fq _ a w (Region.free_spec hi h2) (by simpa [zm2] using h3) h0 hy ?_
  rw [ye0, hm]; exact hv
theorem zF1 {k m m' : Nat} {o : Oper} {a : Act} {w : World} (ho : zB9 lq k = some o) (hm : Nat.lor m (2 ^ k) = m') (h : WL none P lq.toArray (QB P lq w0 L0 Q fq m') [o] a w) :
    wpOpIn (FR none) 0 P lq.toArray QF k (fun a' w' => Rep w0 w' L0 ∧ zD1 P lq.toArray w0 L0 (Q .normal) fq ((zK5 lq.length m).setIfInBounds k true) a' w') a w := by
  rw [zZ7] at ho
  have hi : lq.toArray[k]? = some o := by simpa using ho
  have h' : wpListIn (FR none) 0 P lq.toArray (QB P lq w0 L0 Q fq m') [o] a w := h
  have hK : ∀ a' w', wpListIn (FR none) 0 P lq.toArray (QB P lq w0 L0 Q fq m') [] a' w' → Rep w0 w' L0 ∧ zD1 P lq.toArray w0 L0 (Q .normal) fq ((zK5 lq.length m).setIfInBounds k true) a' w' := fun a' w' g => by
    have g' : Rep w0 w' L0 ∧ WB P lq w0 L0 Q fq m' a' w' := g
    rw [ye0, hm]
    exact ⟨g'.1, g'.2 g'.1⟩
  unfold wpOpIn
  simp only [hi]
  simp only [wpListIn] at h'
  split
  · rename_i hw
    rw [if_pos hw] at h'
    exact ⟨h'.1, zS7 hK (fun e he a w g => by cases e <;> first | exact absurd rfl he | exact g) h'.2⟩
  · rename_i hw
    rw [if_neg hw] at h'
    exact ⟨h'.1, hK _ _ h'.2⟩
theorem zd7 {m k1 m1 : Nat} {o1 : Oper} (hr : zm2 lq m = [k1]) (ho1 : zB9 lq k1 = some o1) (hm1 : Nat.lor m (2 ^ k1) = m1) (h1 : St n D w0 F L (WL none P lq.toArray (QB P lq w0 L0 Q fq m1) [o1])) : St n D w0 F L (WB P lq w0 L0 Q (fq + 1) m) := by
  intro a w ha hw h0
  refine ⟨fun h => (by rw [zm2] at hr; rw [hr] at h; cases h), fun i hi => ?_⟩
  rw [zm2] at hr
  rw [hr] at hi
  simp only [List.mem_cons, List.not_mem_nil, or_false] at hi
  subst hi
  exact zF1 ho1 hm1 (h1 a w ha hw)
theorem zk8 {m k1 m1 k2 m2 : Nat} {o1 o2 : Oper} (hr : zm2 lq m = [k1, k2]) (ho1 : zB9 lq k1 = some o1) (hm1 : Nat.lor m (2 ^ k1) = m1) (ho2 : zB9 lq k2 = some o2) (hm2 : Nat.lor m (2 ^ k2) = m2) (h1 : St n D w0 F L (WL none P lq.toArray (QB P lq w0 L0 Q fq m1) [o1])) (h2 : St n D w0 F L (WL none P lq.toArray (QB P lq w0 L0 Q fq m2) [o2])) : St n D w0 F L (WB P lq w0 L0 Q (fq + 1) m) := by
  intro a w ha hw h0
  refine ⟨fun h => (by rw [zm2] at hr; rw [hr] at h; cases h), fun i hi => ?_⟩
  rw [zm2] at hr
  rw [hr] at hi
  simp only [List.mem_cons, List.not_mem_nil, or_false] at hi
  rcases hi with rfl | rfl
  · exact zF1 ho1 hm1 (h1 a w ha hw)
  · exact zF1 ho2 hm2 (h2 a w ha hw)
theorem zw0 {m k1 m1 k2 m2 k3 m3 : Nat} {o1 o2 o3 : Oper} (hr : zm2 lq m = [k1, k2, k3]) (ho1 : zB9 lq k1 = some o1) (hm1 : Nat.lor m (2 ^ k1) = m1) (ho2 : zB9 lq k2 = some o2) (hm2 : Nat.lor m (2 ^ k2) = m2) (ho3 : zB9 lq k3 = some o3) (hm3 : Nat.lor m (2 ^ k3) = m3)
    (h1 : St n D w0 F L (WL none P lq.toArray (QB P lq w0 L0 Q fq m1) [o1])) (h2 : St n D w0 F L (WL none P lq.toArray (QB P lq w0 L0 Q fq m2) [o2])) (h3 : St n D w0 F L (WL none P lq.toArray (QB P lq w0 L0 Q fq m3) [o3])) : St n D w0 F L (WB P lq w0 L0 Q (fq + 1) m) := by
  intro a w ha hw h0
  refine ⟨fun h => (by rw [zm2] at hr; rw [hr] at h; cases h), fun i hi => ?_⟩
  rw [zm2] at hr
  rw [hr] at hi
  simp only [List.mem_cons, List.not_mem_nil, or_false] at hi
  rcases hi with rfl | rfl | rfl
  · exact zF1 ho1 hm1 (h1 a w ha hw)
  · exact zF1 ho2 hm2 (h2 a w ha hw)
  · exact zF1 ho3 hm3 (h3 a w ha hw)
theorem yt9 (hs : HSub L0 L) (h : St n D w0 F L (WB P lq w0 L0 Q fq mq)) : St n D w0 F L (QB P lq w0 L0 Q fq mq .normal) := fun a w ha hw => ⟨hw.sub hs, h a w ha hw⟩
theorem zO6 (hr : (zm2 lq mq).isEmpty = true) (h : St n D w0 F L (Q .normal)) : St n D w0 F L (WB P lq w0 L0 Q 0 mq) := fun a w ha hw h0 => ⟨by rw [zm2] at hr; simpa using hr, h a w ha hw⟩
theorem zE3 {op : Op} {v : Value} (hnd : nd op = true) (hd : Nat.ble (d + 1) n = true)
    (hv : ∀ a w, Fr n D F a → Rep w0 w L0 → (execOp a.eval ⟨some d, op, ty, pos, af, none⟩).run P w = .ok (.value v) w)
    (h : St n D w0 ((d, v) :: F) L (WB P lq w0 L0 Q fq mq)) : St n D w0 F L (WF P lq w0 L0 Q fq mq (⟨some d, op, ty, pos, af, none⟩)) :=
  fun a w ha hw h0 => ⟨v, .inl ⟨zg6 rfl, hnd, fun w' h' => hv a w' ha h'⟩, h _ w (ha.put (Nat.le_of_ble_eq_true hd) v) hw h0⟩
end
end Go.Sx
namespace Go.Sx
open Go Go.RowKit
section
variable {P : Program}
variable {n : Nat} {D : List Deferred} {w0 : World} {F : List (Nat × Value)} {L : List Ent} {Q : Exit → Act → World → Prop} {L0 : List Ent} {lq : List Oper} {fq mq : Nat} {ops : Array Oper}
variable {d : Tmp} {ty : TypeId} {pos : String} {af : Array Edge} {rest : List Oper}
theorem zO7 {x : Operand} {v : Value} (hx : ev F x = some v) (hd : Nat.ble (d + 1) n = true) (h : St n D w0 ((d, v) :: F) L (WB P lq w0 L0 Q fq mq)) :
    St n D w0 F L (WF P lq w0 L0 Q fq mq (⟨some d, .move x, ty, pos, af, none⟩)) :=
  zE3 rfl hd (fun a w ha _ => by simp [execOp, ha.eval hx]) h
theorem zU9 {x : Operand} {vs : Array Value} {i : Nat} {v : Value} (hx : ev F x = some (.tuple vs)) (hi : vs[i]? = some v) (hd : Nat.ble (d + 1) n = true) (h : St n D w0 ((d, v) :: F) L (WB P lq w0 L0 Q fq mq)) :
    St n D w0 F L (WF P lq w0 L0 Q fq mq (⟨some d, .extract x i, ty, pos, af, none⟩)) :=
  zE3 rfl hd (fun a w ha _ => by simp [execOp, ha.eval hx, Instr.extract, hi]) h
section
variable {x y : Operand} {k : IntKind} {m l : Int} {t u : TypeId} (hx : ev F x = some (.int k m)) (hy : ev F y = some (.int k l)) (hd : Nat.ble (d + 1) n = true)
include hx hy hd
theorem yA5 (h : St n D w0 ((d, .int k (k.wrap (m - l))) :: F) L (WB P lq w0 L0 Q fq mq)) : St n D w0 F L (WF P lq w0 L0 Q fq mq (⟨some d, .binOp .sub t x y u, ty, pos, af, none⟩)) :=
  zE3 rfl hd (fun a w ha _ => by simp [execOp, ha.eval hx, ha.eval hy, eqGuard, binOp, Op.intArith]) h
end
section
variable {x y : Operand} {m l : Int} {t u : TypeId} (hx : ev F x = some (.int .i64 m)) (hy : ev F y = some (.int .i64 l)) (hd : Nat.ble (d + 1) n = true)
include hx hy hd
theorem yG6 (hr : -9223372036854775808 ≤ m - l ∧ m - l ≤ 9223372036854775807) (h : St n D w0 ((d, .int .i64 (m - l)) :: F) L (WB P lq w0 L0 Q fq mq)) : St n D w0 F L (WF P lq w0 L0 Q fq mq (⟨some d, .binOp .sub t x y u, ty, pos, af, none⟩)) :=
  yA5 hx hy hd (by rw [zA2 hr.1 hr.2]; exact h)
end
end
section
variable {P : Program} {n : Nat} {D : List Deferred} {w0 : World} {F : List (Nat × Value)} {L : List Ent} {Q : Exit → Act → World → Prop} {L0 : List Ent} {lq : List Oper} {fq mq : Nat} {ops : Array Oper}
variable {d : Tmp} {ty : TypeId} {pos : String} {af : Array Edge} {rest : List Oper}
theorem zA8 {s : TypeId} {x : Operand} {i o b : Nat} [TF P s i o] (hx : ev F x = some (.pointer (some ⟨b, 0, none⟩))) (hd : Nat.ble (d + 1) n = true)
    (h : St n D w0 ((d, .pointer (some ⟨b, o, none⟩)) :: F) L (WB P lq w0 L0 Q fq mq)) : St n D w0 F L (WF P lq w0 L0 Q fq mq (⟨some d, .fieldAddr s x i, ty, pos, af, none⟩)) :=
  zE3 rfl hd (fun a w ha _ => by simp [execOp, ha.eval hx, TF.h (P := P) (s := s) (i := i)]) h
theorem ym5 {s : TypeId} {x : Operand} {i o b off : Nat} [TF P s i o] (hx : ev F x = some (.pointer (some ⟨b, off, none⟩))) (hd : Nat.ble (d + 1) n = true)
    (h : St n D w0 ((d, .pointer (some ⟨b, off + o, none⟩)) :: F) L (WB P lq w0 L0 Q fq mq)) : St n D w0 F L (WF P lq w0 L0 Q fq mq (⟨some d, .fieldAddr s x i, ty, pos, af, none⟩)) :=
  zE3 rfl hd (fun a w ha _ => by simp [execOp, ha.eval hx, TF.h (P := P) (s := s) (i := i)]) h
theorem zF4 {x : Operand} {p : Addr} (hx : ev F x = some (.pointer (some p))) (hd : Nat.ble (d + 1) n = true)
    (h : St n D w0 ((d, .pointer (some p)) :: F) L (WB P lq w0 L0 Q fq mq)) : St n D w0 F L (WF P lq w0 L0 Q fq mq (⟨some d, .nilCheck x, ty, pos, af, none⟩)) :=
  zE3 rfl hd (fun a w ha _ => by simp [execOp, ha.eval hx]) h
theorem ym7 {t e : TypeId} {x : Operand} {b off : Nat} {c : Array Value} {fz : Nat × Nat} {v : Value} [TA P t false] (hx : ev F x = some (.pointer (some ⟨b, off, none⟩))) (hk : Kn w0 L0 b (.cells c e fz)) (hv : c[off]? = some v)
    (hd : Nat.ble (d + 1) n = true) (h : St n D w0 ((d, v) :: F) L (WB P lq w0 L0 Q fq mq)) : St n D w0 F L (WF P lq w0 L0 Q fq mq (⟨some d, .load t x, ty, pos, af, none⟩)) :=
  zE3 rfl hd (fun a w ha hw => by
    have hc : w.cell? ⟨b, off, none⟩ = some v := by simp [World.cell?, hk w hw, hv]
    simp [execOp, ha.eval hx, Instr.loadAt, Instr.sureAddr, loadVar, TA.h (P := P) (t := t), hc]) h
theorem yu0 {t e : TypeId} {x : Operand} {b off : Nat} {l : List Value} {fz : Nat × Nat} {v : Value} (hA : TA P t false) (hx : ev F x = some (.pointer (some ⟨b, off, none⟩))) (hk : Kn w0 L0 b (.cells l.toArray e fz)) (hv : Nth l off v)
    (hd : Nat.ble (d + 1) n = true) (h : St n D w0 ((d, v) :: F) L (WB P lq w0 L0 Q fq mq)) : St n D w0 F L (WF P lq w0 L0 Q fq mq (⟨some d, .load t x, ty, pos, af, none⟩)) :=
  ym7 hx hk (by simpa using hv.eq) hd h
end
section
variable {P : Program} {n : Nat} {D : List Deferred} {w0 : World} {F : List (Nat × Value)} {L : List Ent} {Q : Exit → Act → World → Prop} {L0 : List Ent} {lq : List Oper} {fq mq : Nat} {ops : Array Oper}
variable {d : Tmp} {ty : TypeId} {pos : String} {af : Array Edge} {rest : List Oper}
theorem yG5 {t e : TypeId} {x : Operand} {a0 : Option Addr} {len cap : Nat} (hU : TU P t (.slice e)) (hx : ev F x = some (.slice a0 len cap)) (hd : Nat.ble (d + 1) n = true)
    (h : St n D w0 ((d, .int .i64 len) :: F) L (WB P lq w0 L0 Q fq mq)) : St n D w0 F L (WF P lq w0 L0 Q fq mq (⟨some d, .call ⟨.builtin .len, #[x], #[t]⟩, ty, pos, af, none⟩)) :=
  zE3 rfl hd (fun a w ha _ => by simp [execOp, resolve, invoke, builtin, Builtin.len_, ha.eval hx, zb2 (TU.h (P := P) (t := t)), goInt]) h
variable {fn : Func} {R : Ending → World → Prop}
end
section
variable {P : Program} {n : Nat} {D : List Deferred} {w0 : World} {F : List (Nat × Value)} {L : List Ent} {Q : Exit → Act → World → Prop} {L0 : List Ent} {lq : List Oper} {fq mq : Nat} {ops : Array Oper}
variable {d : Tmp} {ty : TypeId} {pos : String} {af : Array Edge} {rest : List Oper}
theorem ym8 {t e : TypeId} {x : Operand} {b off : Nat} {c : Array Value} {fz : Nat × Nat} {v : Value} (hA : TA P t false) (hx : ev F x = some (.pointer (some ⟨b, off, none⟩))) (hk : Kn w0 L0 b (.cells c e fz)) (hv : c[off]? = some v)
    (hd : Nat.ble (d + 1) n = true) (h : St n D w0 ((d, v) :: F) L (WB P lq w0 L0 Q fq mq)) : St n D w0 F L (WF P lq w0 L0 Q fq mq (⟨some d, .load t x, ty, pos, af, none⟩)) := ym7 hx hk hv hd h
theorem ym6 {t e : TypeId} {k m : Nat} {x y : Operand} {b off len cap : Nat} {kk : IntKind} {i : Int} (hU : TU P t (.slice e)) (hS : TS P e k) (hx : ev F x = some (.slice (some ⟨b, off, none⟩) len cap)) (hy : ev F y = some (.int kk i)) (hm : i = (m : Int)) (hd : Nat.ble (d + 1) n = true)
    (hi : m < len) (h : St n D w0 ((d, .pointer (some ⟨b, off + m * k, none⟩)) :: F) L (WB P lq w0 L0 Q fq mq)) : St n D w0 F L (WF P lq w0 L0 Q fq mq (⟨some d, .indexAddr t x y, ty, pos, af, none⟩)) :=
  zE3 rfl hd (fun a w ha _ => by
    subst hm
    simp [execOp, ha.eval hx, ha.eval hy, Instr.indexAt, asIntOf, zb2 (TU.h (P := P) (t := t)), hi, TS.h (P := P) (t := e), zh8]) h
theorem yG4 {t e : TypeId} {x : Operand} {b p o : Nat} {c : Array Value} {fz : Nat × Nat} {v : Value} {l : List Value} (hA : TA P t false) (hx : ev F x = some (.pointer (some ⟨b, p + o, none⟩))) (hk : Kn w0 L0 b (.cells c e fz))
    (hE : ∀ j v, l[j]? = some v → c[p + j]? = some v) (hv : Nth l o v)
    (hd : Nat.ble (d + 1) n = true) (h : St n D w0 ((d, v) :: F) L (WB P lq w0 L0 Q fq mq)) : St n D w0 F L (WF P lq w0 L0 Q fq mq (⟨some d, .load t x, ty, pos, af, none⟩)) :=
  zE3 rfl hd (fun a w ha hw => by
    have hc : w.cell? ⟨b, p + o, none⟩ = some v := by simp [World.cell?, hk w hw, hE o v hv.eq]
    simp [execOp, ha.eval hx, Instr.loadAt, Instr.sureAddr, loadVar, TA.h (P := P) (t := t), hc]) h
end
section
variable {P : Program} {n : Nat} {D : List Deferred} {w0 : World} {F : List (Nat × Value)} {L L' : List Ent} {Q : Exit → Act → World → Prop} {L0 : List Ent} {lq : List Oper} {fq mq : Nat} {ops : Array Oper}
variable {d : Tmp} {ty : TypeId} {pos : String} {af : Array Edge} {rest : List Oper}
end
section
variable {P : Program} {n : Nat} {D : List Deferred} {w0 : World} {F : List (Nat × Value)} {L : List Ent} {Q : Exit → Act → World → Prop} {L0 : List Ent} {lq : List Oper} {fq mq : Nat} {ops : Array Oper}
variable {d : Tmp} {ty : TypeId} {pos : String} {af : Array Edge} {rest : List Oper}
end
end Go.Sx
namespace Go.Sx
open Go Go.RowKit
section
variable {P : Program}
variable {n : Nat} {D : List Deferred} {w0 : World} {F : List (Nat × Value)} {L : List Ent} {J J1 : Made} {Φ : zf2} {X : Act → World → Prop} {kq : Nat} {ops : Array Oper}
variable {d : Tmp} {ty : TypeId} {pos : String} {af : Array Edge} {rest : List Oper}
theorem i9 {x : Operand} {v : Value} (hx : ev F x = some v) (hd : Nat.ble (d + 1) n = true) (h : St n D w0 ((d, v) :: F) L (WQ P ops w0 L Φ X (kq + 1) J rest)) :
    St n D w0 F L (WQ P ops w0 L Φ X kq J (⟨some d, .move x, ty, pos, af, none⟩ :: rest)) :=
  zl5 rfl hd (fun a w ha _ => by simp [execOp, ha.eval hx]) h
theorem n9 {x : Operand} {v : Value} (hx : ev F x = some v) (hd : Nat.ble (d + 1) n = true) (h : St n D w0 ((d, v) :: F) L (WQ P ops w0 L Φ X (kq + 1) J rest)) :
    St n D w0 F L (WQ P ops w0 L Φ X kq J (⟨some d, .assign x, ty, pos, af, none⟩ :: rest)) :=
  zl5 rfl hd (fun a w ha _ => by simp [execOp, ha.eval hx]) h
theorem zm8 {c x y : Operand} {b : Bool} {v : Value} (hc : ev F c = some (.bool b)) (hb : b = true) (hx : ev F x = some v) (hd : Nat.ble (d + 1) n = true) (h : St n D w0 ((d, v) :: F) L (WQ P ops w0 L Φ X (kq + 1) J rest)) :
    St n D w0 F L (WQ P ops w0 L Φ X kq J (⟨some d, .pick c x y, ty, pos, af, none⟩ :: rest)) :=
  zl5 rfl hd (fun a w ha _ => by subst hb; simp [execOp, ha.eval hx, ha.eval hc, asBool]) h
theorem zh9 {c x y : Operand} {b : Bool} {v : Value} (hc : ev F c = some (.bool b)) (hb : b = false) (hy : ev F y = some v) (hd : Nat.ble (d + 1) n = true) (h : St n D w0 ((d, v) :: F) L (WQ P ops w0 L Φ X (kq + 1) J rest)) :
    St n D w0 F L (WQ P ops w0 L Φ X kq J (⟨some d, .pick c x y, ty, pos, af, none⟩ :: rest)) :=
  zl5 rfl hd (fun a w ha _ => by subst hb; simp [execOp, ha.eval hy, ha.eval hc, asBool]) h
theorem yo7 {x : Operand} {b : Bool} {t : TypeId} (hx : ev F x = some (.bool b)) (hd : Nat.ble (d + 1) n = true) (h : St n D w0 ((d, .bool !b) :: F) L (WQ P ops w0 L Φ X (kq + 1) J rest)) :
    St n D w0 F L (WQ P ops w0 L Φ X kq J (⟨some d, .unOp .not t x, ty, pos, af, none⟩ :: rest)) :=
  zl5 rfl hd (fun a w ha _ => by simp [execOp, ha.eval hx, Op.unary]) h
theorem ze2 {x : Operand} {vs : Array Value} {i : Nat} {v : Value} (hx : ev F x = some (.tuple vs)) (hi : vs[i]? = some v) (hd : Nat.ble (d + 1) n = true) (h : St n D w0 ((d, v) :: F) L (WQ P ops w0 L Φ X (kq + 1) J rest)) :
    St n D w0 F L (WQ P ops w0 L Φ X kq J (⟨some d, .extract x i, ty, pos, af, none⟩ :: rest)) :=
  zl5 rfl hd (fun a w ha _ => by simp [execOp, ha.eval hx, Instr.extract, hi]) h
section
variable {x y : Operand} {k : IntKind} {m l : Int} {t u : TypeId} (hx : ev F x = some (.int k m)) (hy : ev F y = some (.int k l)) (hd : Nat.ble (d + 1) n = true)
include hx hy hd
theorem ze6 (h : St n D w0 ((d, .bool (decide (m < l))) :: F) L (WQ P ops w0 L Φ X (kq + 1) J rest)) : St n D w0 F L (WQ P ops w0 L Φ X kq J (⟨some d, .binOp .lss t x y u, ty, pos, af, none⟩ :: rest)) :=
  zl5 rfl hd (fun a w ha _ => by simp [execOp, ha.eval hx, ha.eval hy, eqGuard, binOp, Op.intCmp]) h
theorem zh4 (h : St n D w0 ((d, .bool (decide (m > l))) :: F) L (WQ P ops w0 L Φ X (kq + 1) J rest)) : St n D w0 F L (WQ P ops w0 L Φ X kq J (⟨some d, .binOp .gtr t x y u, ty, pos, af, none⟩ :: rest)) :=
  zl5 rfl hd (fun a w ha _ => by simp [execOp, ha.eval hx, ha.eval hy, eqGuard, binOp, Op.intCmp]) h
theorem zm1 (h : St n D w0 ((d, .bool (decide (m ≥ l))) :: F) L (WQ P ops w0 L Φ X (kq + 1) J rest)) : St n D w0 F L (WQ P ops w0 L Φ X kq J (⟨some d, .binOp .geq t x y u, ty, pos, af, none⟩ :: rest)) :=
  zl5 rfl hd (fun a w ha _ => by simp [execOp, ha.eval hx, ha.eval hy, eqGuard, binOp, Op.intCmp]) h
theorem zi4 (h : St n D w0 ((d, .bool (decide (m = l))) :: F) L (WQ P ops w0 L Φ X (kq + 1) J rest)) : St n D w0 F L (WQ P ops w0 L Φ X kq J (⟨some d, .binOp .eql t x y u, ty, pos, af, none⟩ :: rest)) :=
  zl5 rfl hd (fun a w ha _ => by simp [execOp, ha.eval hx, ha.eval hy, eqGuard, binOp, Op.intCmp]; rfl) h
theorem zr1 (h : St n D w0 ((d, .bool (decide (m ≠ l))) :: F) L (WQ P ops w0 L Φ X (kq + 1) J rest)) : St n D w0 F L (WQ P ops w0 L Φ X kq J (⟨some d, .binOp .neq t x y u, ty, pos, af, none⟩ :: rest)) :=
  zl5 rfl hd (fun a w ha _ => by simp [execOp, ha.eval hx, ha.eval hy, eqGuard, binOp, Op.intCmp, bne, decide_not]; rfl) h
theorem yF1 (h : St n D w0 ((d, .int k (k.wrap (m - l))) :: F) L (WQ P ops w0 L Φ X (kq + 1) J rest)) : St n D w0 F L (WQ P ops w0 L Φ X kq J (⟨some d, .binOp .sub t x y u, ty, pos, af, none⟩ :: rest)) :=
  zl5 rfl hd (fun a w ha _ => by simp [execOp, ha.eval hx, ha.eval hy, eqGuard, binOp, Op.intArith]) h
end
section
variable {x y : Operand} {m l : Int} {t u : TypeId} (hx : ev F x = some (.int .i64 m)) (hy : ev F y = some (.int .i64 l)) (hd : Nat.ble (d + 1) n = true)
include hx hy hd
theorem yL5 (hr : -9223372036854775808 ≤ m - l ∧ m - l ≤ 9223372036854775807) (h : St n D w0 ((d, .int .i64 (m - l)) :: F) L (WQ P ops w0 L Φ X (kq + 1) J rest)) : St n D w0 F L (WQ P ops w0 L Φ X kq J (⟨some d, .binOp .sub t x y u, ty, pos, af, none⟩ :: rest)) :=
  yF1 hx hy hd (by rw [zA2 hr.1 hr.2]; exact h)
end
end
section
variable {P : Program} {n : Nat} {D : List Deferred} {w0 : World} {F : List (Nat × Value)} {L : List Ent} {J J1 : Made} {Φ : zf2} {X : Act → World → Prop} {kq : Nat} {ops : Array Oper}
variable {d : Tmp} {ty : TypeId} {pos : String} {af : Array Edge} {rest : List Oper}
theorem m5 {s : TypeId} {x : Operand} {i o b : Nat} [TF P s i o] (hx : ev F x = some (.pointer (some ⟨b, 0, none⟩))) (hd : Nat.ble (d + 1) n = true)
    (h : St n D w0 ((d, .pointer (some ⟨b, o, none⟩)) :: F) L (WQ P ops w0 L Φ X (kq + 1) J rest)) : St n D w0 F L (WQ P ops w0 L Φ X kq J (⟨some d, .fieldAddr s x i, ty, pos, af, none⟩ :: rest)) :=
  zl5 rfl hd (fun a w ha _ => by simp [execOp, ha.eval hx, TF.h (P := P) (s := s) (i := i)]) h
theorem zb4 {s : TypeId} {x : Operand} {i o b off : Nat} [TF P s i o] (hx : ev F x = some (.pointer (some ⟨b, off, none⟩))) (hd : Nat.ble (d + 1) n = true)
    (h : St n D w0 ((d, .pointer (some ⟨b, off + o, none⟩)) :: F) L (WQ P ops w0 L Φ X (kq + 1) J rest)) : St n D w0 F L (WQ P ops w0 L Φ X kq J (⟨some d, .fieldAddr s x i, ty, pos, af, none⟩ :: rest)) :=
  zl5 rfl hd (fun a w ha _ => by simp [execOp, ha.eval hx, TF.h (P := P) (s := s) (i := i)]) h
theorem yk6 {x : Operand} {p : Addr} (hx : ev F x = some (.pointer (some p))) (hΦ : Φ kq = none) (hJ : SubJ ((anc ops).getD kq 0) J1 J) (hd : Nat.ble (d + 1) n = true)
    (h : St n D w0 ((d, .pointer (some p)) :: F) L (WQ P ops w0 L Φ X (kq + 1) J rest)) : St n D w0 F L (WQ P ops w0 L Φ X kq J (⟨some d, .nilCheck x, ty, pos, af, none⟩ :: rest)) :=
  zA4 rfl hd hΦ hJ (fun a w ha _ => by simp [execOp, ha.eval hx]) h
theorem yo6 {t e : TypeId} {x : Operand} {b off : Nat} {c : Array Value} {fz : Nat × Nat} {v : Value} [TA P t false] (hx : ev F x = some (.pointer (some ⟨b, off, none⟩))) (hΦ : Φ kq = none) (hJ : SubJ ((anc ops).getD kq 0) J1 J) (hk : Kn w0 (za9 J1 L) b (.cells c e fz)) (hv : c[off]? = some v)
    (hd : Nat.ble (d + 1) n = true) (h : St n D w0 ((d, v) :: F) L (WQ P ops w0 L Φ X (kq + 1) J rest)) : St n D w0 F L (WQ P ops w0 L Φ X kq J (⟨some d, .load t x, ty, pos, af, none⟩ :: rest)) :=
  zA4 rfl hd hΦ hJ (fun a w ha hw => by
    have hc : w.cell? ⟨b, off, none⟩ = some v := by simp [World.cell?, hk w hw, hv]
    simp [execOp, ha.eval hx, Instr.loadAt, Instr.sureAddr, loadVar, TA.h (P := P) (t := t), hc]) h
theorem yJ3 {t e : TypeId} {x : Operand} {b off : Nat} {l : List Value} {fz : Nat × Nat} {v : Value} (hA : TA P t false) (hx : ev F x = some (.pointer (some ⟨b, off, none⟩))) (hΦ : Φ kq = none) (hJ : SubJ ((anc ops).getD kq 0) J1 J) (hk : Kn w0 (za9 J1 L) b (.cells l.toArray e fz)) (hv : Nth l off v)
    (hd : Nat.ble (d + 1) n = true) (h : St n D w0 ((d, v) :: F) L (WQ P ops w0 L Φ X (kq + 1) J rest)) : St n D w0 F L (WQ P ops w0 L Φ X kq J (⟨some d, .load t x, ty, pos, af, none⟩ :: rest)) :=
  yo6 hx hΦ hJ hk (by simpa using hv.eq) hd h
theorem yF0 {t e : TypeId} {k : Nat} {x : Operand} {b off : Nat} {c : Array Value} {fz : Nat × Nat} {l : List Value} [TA P t true] [TS P t k] (hx : ev F x = some (.pointer (some ⟨b, off, none⟩))) (hΦ : Φ kq = none) (hJ : SubJ ((anc ops).getD kq 0) J1 J) (hk : Kn w0 (za9 J1 L) b (.cells c e fz))
    (hl : l.length = k) (hv : ∀ j v, l[j]? = some v → c[off + j]? = some v)
    (hd : Nat.ble (d + 1) n = true) (h : St n D w0 ((d, .agg l.toArray) :: F) L (WQ P ops w0 L Φ X (kq + 1) J rest)) : St n D w0 F L (WQ P ops w0 L Φ X kq J (⟨some d, .load t x, ty, pos, af, none⟩ :: rest)) :=
  zA4 rfl hd hΦ hJ (fun a w ha hw => by
    subst hl
    have hc := run_loadCells_list (P := P) w ⟨b, off, none⟩ l (fun j v hj => by rw [zh8]; simp [World.cell?, hk w hw, hv j v hj])
    simp [execOp, ha.eval hx, Instr.loadAt, Instr.sureAddr, loadVar, TA.h (P := P) (t := t), TS.h (P := P) (t := t), hc]) h
theorem yr6 {t e : TypeId} {k : Nat} {x : Operand} {b : Nat} {l : List Value} {fz : Nat × Nat} (hA : TA P t true) (hS : TS P t k) (hx : ev F x = some (.pointer (some ⟨b, 0, none⟩))) (hΦ : Φ kq = none) (hJ : SubJ ((anc ops).getD kq 0) J1 J) (hk : Kn w0 (za9 J1 L) b (.cells l.toArray e fz))
    (hl : l.length = k) (hd : Nat.ble (d + 1) n = true) (h : St n D w0 ((d, .agg l.toArray) :: F) L (WQ P ops w0 L Φ X (kq + 1) J rest)) : St n D w0 F L (WQ P ops w0 L Φ X kq J (⟨some d, .load t x, ty, pos, af, none⟩ :: rest)) :=
  yF0 hx hΦ hJ hk hl (fun j v hj => by simpa using hj) hd h
end
section
variable {P : Program} {n : Nat} {D : List Deferred} {w0 : World} {F : List (Nat × Value)} {L : List Ent} {J J1 : Made} {Φ : zf2} {X : Act → World → Prop} {kq : Nat} {ops : Array Oper}
variable {d : Tmp} {ty : TypeId} {pos : String} {af : Array Edge} {rest : List Oper}
theorem yE7 {t : TypeId} {pl : List (Nat × Nat)} {xs : List (Nat × Operand)} {vs : List (Nat × Value)} {z : Value} {zl out : List Value} (hP : TPl P t pl) (hZ : TZ P t z zl) (hxs : Parts F xs vs)
    (hf : Fill (fun i : Nat => pl[i]?) zl vs out) (hd : Nat.ble (d + 1) n = true) (h : St n D w0 ((d, .agg out.toArray) :: F) L (WQ P ops w0 L Φ X (kq + 1) J rest)) :
    St n D w0 F L (WQ P ops w0 L Φ X kq J (⟨some d, .build t xs.toArray, ty, pos, af, none⟩ :: rest)) :=
  zl5 rfl hd (fun a w ha _ => by
    obtain ⟨fs, hu, hm⟩ := TPl.h (P := P) (t := t) (pl := pl)
    have hxs' := hxs.map ha
    have e1 : xs.toArray.map (fun x => match x with | (i, x) => (i, a.eval x)) = vs.toArray := by rw [← hxs']; simp
    have hfe := hf.eq
    have e2 : (fun i : Nat => pl.toArray[i]?) = (fun i : Nat => pl[i]?) := by funext i; simp
    simp only [execOp, e1, Instr.build, Sem.run_bind, TZ.h (P := P) (t := t), Result.andThen_ok, zb2 hu, hm, TZ.hc (P := P) (t := t)]
    rw [show (fun x : Nat => pl.toArray[x]?) = (fun i : Nat => pl[i]?) from e2]
    rw [hfe]
    rfl) h
theorem yE8 {x y : Operand} {t u : TypeId} {ds : List TypeDesc} {xs ys : List Value} {p : Prop} (hQ : TQ P t ds) (hx : ev F x = some (.agg xs.toArray)) (hy : ev F y = some (.agg ys.toArray)) (he : EqP ds xs ys p) (hd : Nat.ble (d + 1) n = true)
    (h : St n D w0 ((d, .bool (B p)) :: F) L (WQ P ops w0 L Φ X (kq + 1) J rest)) : St n D w0 F L (WQ P ops w0 L Φ X kq J (⟨some d, .binOp .eql t x y u, ty, pos, af, none⟩ :: rest)) :=
  zl5 rfl hd (fun a w ha _ => by
    obtain ⟨fs, hu, hs, hg, hf⟩ := hQ.h
    simp only [execOp, ha.eval hx, ha.eval hy, Sem.run_bind, run_eqGuard_agg w .eql t _ _ _ _ hg, Result.andThen_ok]
    rw [run_eql_struct]
    show (((Op.equal t (.agg xs.toArray) (.agg ys.toArray)).run P w).andThen _).andThen _ = _
    rw [zo8 hQ he]; rfl) h
theorem q_len {t e : TypeId} {x : Operand} {a0 : Option Addr} {len cap : Nat} (hU : TU P t (.slice e)) (hx : ev F x = some (.slice a0 len cap)) (hΦ : Φ kq = none) (hJ : SubJ ((anc ops).getD kq 0) J1 J) (hd : Nat.ble (d + 1) n = true)
    (h : St n D w0 ((d, .int .i64 len) :: F) L (WQ P ops w0 L Φ X (kq + 1) J rest)) : St n D w0 F L (WQ P ops w0 L Φ X kq J (⟨some d, .call ⟨.builtin .len, #[x], #[t]⟩, ty, pos, af, none⟩ :: rest)) :=
  zA4 rfl hd hΦ hJ (fun a w ha _ => by simp [execOp, resolve, invoke, builtin, Builtin.len_, ha.eval hx, zb2 (TU.h (P := P) (t := t)), goInt]) h
theorem yJ6 {x y : Operand} {k : IntKind} {m l : Int} {ats : Array TypeId} (hx : ev F x = some (.int k m)) (hΦ : Φ kq = none) (hJ : SubJ ((anc ops).getD kq 0) J1 J) (hy : ev F y = some (.int k l)) (hd : Nat.ble (d + 1) n = true)
    (h : St n D w0 ((d, .int k (if l < m then l else m)) :: F) L (WQ P ops w0 L Φ X (kq + 1) J rest)) : St n D w0 F L (WQ P ops w0 L Φ X kq J (⟨some d, .call ⟨.builtin .min, #[x, y], ats⟩, ty, pos, af, none⟩ :: rest)) :=
  zA4 rfl hd hΦ hJ (fun a w ha _ => by simp [execOp, resolve, invoke, builtin, Builtin.min_, Builtin.min2, ha.eval hx, ha.eval hy]) h
theorem yJ4 {x y : Operand} {k : IntKind} {m l : Int} {ats : Array TypeId} (hx : ev F x = some (.int k m)) (hΦ : Φ kq = none) (hJ : SubJ ((anc ops).getD kq 0) J1 J) (hy : ev F y = some (.int k l)) (hd : Nat.ble (d + 1) n = true)
    (h : St n D w0 ((d, .int k (if m < l then l else m)) :: F) L (WQ P ops w0 L Φ X (kq + 1) J rest)) : St n D w0 F L (WQ P ops w0 L Φ X kq J (⟨some d, .call ⟨.builtin .max, #[x, y], ats⟩, ty, pos, af, none⟩ :: rest)) :=
  zA4 rfl hd hΦ hJ (fun a w ha _ => by simp [execOp, resolve, invoke, builtin, Builtin.max_, Builtin.max2, ha.eval hx, ha.eval hy]) h
variable {fn : Func} {R : Ending → World → Prop}
end
section
variable {P : Program} {n : Nat} {D : List Deferred} {w0 : World} {F : List (Nat × Value)} {L : List Ent} {J J1 : Made} {Φ : zf2} {X : Act → World → Prop} {kq : Nat} {ops : Array Oper}
variable {d : Tmp} {ty : TypeId} {pos : String} {af : Array Edge} {rest : List Oper}
theorem yE9 {t e : TypeId} {x : Operand} {b off : Nat} {c : Array Value} {fz : Nat × Nat} {v : Value} (hA : TA P t false) (hx : ev F x = some (.pointer (some ⟨b, off, none⟩))) (hΦ : Φ kq = none) (hJ : SubJ ((anc ops).getD kq 0) J1 J) (hk : Kn w0 (za9 J1 L) b (.cells c e fz)) (hv : c[off]? = some v)
    (hd : Nat.ble (d + 1) n = true) (h : St n D w0 ((d, v) :: F) L (WQ P ops w0 L Φ X (kq + 1) J rest)) : St n D w0 F L (WQ P ops w0 L Φ X kq J (⟨some d, .load t x, ty, pos, af, none⟩ :: rest)) := yo6 hx hΦ hJ hk hv hd h
theorem zc3 {t e : TypeId} {k m : Nat} {x y : Operand} {b off len cap : Nat} {kk : IntKind} {i : Int} (hU : TU P t (.slice e)) (hS : TS P e k) (hx : ev F x = some (.slice (some ⟨b, off, none⟩) len cap)) (hy : ev F y = some (.int kk i)) (hm : i = (m : Int)) (hd : Nat.ble (d + 1) n = true)
    (hi : m < len) (h : St n D w0 ((d, .pointer (some ⟨b, off + m * k, none⟩)) :: F) L (WQ P ops w0 L Φ X (kq + 1) J rest)) : St n D w0 F L (WQ P ops w0 L Φ X kq J (⟨some d, .indexAddr t x y, ty, pos, af, none⟩ :: rest)) :=
  zl5 rfl hd (fun a w ha _ => by
    subst hm
    simp [execOp, ha.eval hx, ha.eval hy, Instr.indexAt, asIntOf, zb2 (TU.h (P := P) (t := t)), hi, TS.h (P := P) (t := e), zh8]) h
theorem yL4 {t e : TypeId} {k : Nat} {x : Operand} {b off : Nat} {c : Array Value} {fz : Nat × Nat} {l : List Value} (hA : TA P t true) (hS : TS P t k) (hx : ev F x = some (.pointer (some ⟨b, off, none⟩))) (hΦ : Φ kq = none) (hJ : SubJ ((anc ops).getD kq 0) J1 J) (hk : Kn w0 (za9 J1 L) b (.cells c e fz))
    (hv : ∀ j v, l[j]? = some v → c[off + j]? = some v) (hl : l.length = k)
    (hd : Nat.ble (d + 1) n = true) (h : St n D w0 ((d, .agg l.toArray) :: F) L (WQ P ops w0 L Φ X (kq + 1) J rest)) : St n D w0 F L (WQ P ops w0 L Φ X kq J (⟨some d, .load t x, ty, pos, af, none⟩ :: rest)) :=
  zA4 rfl hd hΦ hJ (fun a w ha hw => by
    subst hl
    have hc := run_loadCells_list (P := P) w ⟨b, off, none⟩ l (fun j v hj => by rw [zh8]; simp [World.cell?, hk w hw, hv j v hj])
    simp [execOp, ha.eval hx, Instr.loadAt, Instr.sureAddr, loadVar, TA.h (P := P) (t := t), TS.h (P := P) (t := t), hc]) h
theorem yL3 {t e : TypeId} {x : Operand} {b p o : Nat} {c : Array Value} {fz : Nat × Nat} {v : Value} {l : List Value} (hA : TA P t false) (hx : ev F x = some (.pointer (some ⟨b, p + o, none⟩))) (hΦ : Φ kq = none) (hJ : SubJ ((anc ops).getD kq 0) J1 J) (hk : Kn w0 (za9 J1 L) b (.cells c e fz))
    (hE : ∀ j v, l[j]? = some v → c[p + j]? = some v) (hv : Nth l o v)
    (hd : Nat.ble (d + 1) n = true) (h : St n D w0 ((d, v) :: F) L (WQ P ops w0 L Φ X (kq + 1) J rest)) : St n D w0 F L (WQ P ops w0 L Φ X kq J (⟨some d, .load t x, ty, pos, af, none⟩ :: rest)) :=
  zA4 rfl hd hΦ hJ (fun a w ha hw => by
    have hc : w.cell? ⟨b, p + o, none⟩ = some v := by simp [World.cell?, hk w hw, hE o v hv.eq]
    simp [execOp, ha.eval hx, Instr.loadAt, Instr.sureAddr, loadVar, TA.h (P := P) (t := t), hc]) h
end
section
variable {P : Program} {n : Nat} {D : List Deferred} {w0 : World} {F : List (Nat × Value)} {L L' : List Ent} {J J1 : Made} {Φ : zf2} {X : Act → World → Prop} {kq : Nat} {ops : Array Oper}
variable {d : Tmp} {ty : TypeId} {pos : String} {af : Array Edge} {rest : List Oper}
end
section
variable {P : Program} {n : Nat} {D : List Deferred} {w0 : World} {F : List (Nat × Value)} {L : List Ent} {J J1 : Made} {Φ : zf2} {X : Act → World → Prop} {kq : Nat} {ops : Array Oper}
variable {d : Tmp} {ty : TypeId} {pos : String} {af : Array Edge} {rest : List Oper}
end
end Go.Sx
namespace Go.Sx
open Go Go.RowKit
def Rd {H : Type} (enc : TypeId × Value → H) (P : Program) (w : World) (t : TypeId) (cs : List Value) : Prop := ∃ fuel x, DataW.trod enc P w 0 (fun _ => true) true fuel t cs = some x
section
variable {H : Type} {enc : TypeId × Value → H} {P : Program} {w : World} {t : TypeId} {cs : List Value}
theorem Rd.of {v : Value} {d : DataW H} {ps : List MemPlace} (h : DataW.Trod enc P w 0 (fun _ => true) true t v d ps) : Rd enc P w t v.cells.toList := h.elim fun f h => ⟨f, _, h⟩
theorem Rd.lt {v : Value} {d : DataW H} {ps : List MemPlace} (h : DataW.Trod enc P w 0 (fun _ => true) true t v d ps) : ∀ x ∈ ps, x.block < w.heap.size := by obtain ⟨m, hm⟩ := h; exact DataW.trod_lt m _ _ _ hm
theorem Rd.int {k : IntKind} (ht : P.underlying t = some (.int k)) (h : Rd enc P w t cs) : ∃ n, cs = [.int k n] ∧ (Lit.int k n).wf = true := by
  obtain ⟨f, x, h⟩ := h
  obtain ⟨n, h1, _, h2⟩ := DataW.trod_int ht h
  exact ⟨n, h1, h2⟩
theorem Rd.bool (ht : P.underlying t = some .bool) (h : Rd enc P w t cs) : ∃ b, cs = [.bool b] := by
  obtain ⟨f, x, h⟩ := h
  obtain ⟨n, h1, _⟩ := DataW.trod_bool ht h
  exact ⟨n, h1⟩
theorem Rd.string (ht : P.underlying t = some .string) (h : Rd enc P w t cs) : ∃ s : ByteArray, cs = [.string s] ∧ s.size ≤ maxLen := by
  obtain ⟨f, x, h⟩ := h
  obtain ⟨n, h1, _, h2⟩ := DataW.trod_string ht h
  exact ⟨n, h1, h2⟩
theorem Rd.struct {fs : Array Field} (ht : P.underlying t = some (.struct fs)) (h : Rd enc P w t cs) : cs.length = P.cellsOf t ∧ ∀ (i : Nat) (f : Field), fs[i]? = some f → Rd enc P w f.type ((cs.drop f.offset).take (P.cellsOf f.type)) := by
  obtain ⟨f, x, h⟩ := h
  obtain ⟨xs, n, _, _, hl, hlen, hf⟩ := DataW.trod_struct ht h
  refine ⟨hl, fun i f hi => ?_⟩
  have hlt : i < xs.length := by rw [hlen]; exact (Array.getElem?_eq_some_iff.1 hi).1
  exact ⟨n, xs[i], by rw [hf i f hi]; exact List.getElem?_eq_getElem hlt⟩
theorem Rd.slice {e : TypeId} {k : Nat} (ht : P.underlying t = some (.slice e)) (hk : P.cellsOf e = k) (h : Rd enc P w t cs) : cs = [.slice none 0 0] ∨
    ∃ (a : Addr) (len cap : Nat), cs = [.slice (some a) len cap] ∧ len ≤ cap ∧ cap ≤ maxLen ∧ ∀ i, i < cap → ∃ l, w.cells? 0 (a.add (i * k)) k = some l ∧ Rd enc P w e l := by
  subst hk
  obtain ⟨f, x, h⟩ := h
  rcases DataW.trod_slice ht h with h0 | ⟨a, len, cap, elems, rest, n, _, h1, _, _, h2, h3, h4, h5, h6, _⟩
  · exact .inl h0.1
  refine .inr ⟨a, len, cap, h1, h2, h3, fun i hi => ?_⟩
  obtain ⟨g1, g2⟩ := h6 rfl
  have hb : ∃ y, (w.cells? 0 (a.add (i * P.cellsOf e)) (P.cellsOf e)).bind (DataW.trod enc P w 0 (fun _ => true) true n e) = some y := by
    by_cases hl : i < len
    · exact ⟨elems[i]'(by omega), by rw [h5 i hl]; exact List.getElem?_eq_getElem _⟩
    · have := g2 (i - len) (by omega)
      rw [show len + (i - len) = i from by omega] at this
      exact ⟨rest[i - len]'(by omega), by rw [this]; exact List.getElem?_eq_getElem _⟩
  obtain ⟨y, hy⟩ := hb
  obtain ⟨l, hl1, hl2⟩ := Option.bind_eq_some_iff.1 hy
  exact ⟨l, hl1, n, y, hl2⟩
end
end Go.Sx
namespace Go.Sx
open Go Go.RowKit
theorem Rep.given {w : World} {b : Nat} {o : Obj} (h : w.heap[b]? = some o) : Rep w w [⟨b, o, false⟩] :=
  ⟨rfl, rfl, rfl, Nat.le_refl _, fun x hx => (by simp at hx; subst hx; exact h), fun x hx ho => (by simp at hx; subst hx; cases ho), (by simp), fun _ _ _ => rfl⟩
inductive Turn : List Ent → List Ent → List Ent → Prop
  | nil {L : List Ent} : Turn L [] L
  | cons {L L' L'' : List Ent} {b : Nat} {o o' : Obj} {G : List Ent} : Upd L b o o' L' → Turn L' G L'' → Turn L (⟨b, o', false⟩ :: G) L''
def zp9 (w : World) : List Ent → World
  | [] => w
  | x :: G => zp9 (zl6 w x.b x.o) G
theorem zv5 : ∀ (G : List Ent) (w : World), (zp9 w G).heap.size = w.heap.size
  | [], _ => rfl
  | x :: G, w => by rw [zp9, zv5 G]; simp [zl6]
theorem zv4 : ∀ (G : List Ent) (w : World), (zp9 w G).os = w.os ∧ (zp9 w G).tape = w.tape ∧ (zp9 w G).output = w.output
  | [], _ => ⟨rfl, rfl, rfl⟩
  | x :: G, w => by rw [zp9]; exact zv4 G _
theorem zG3 : ∀ (G : List Ent) (w : World) (k : Nat), (∀ x ∈ G, x.b ≠ k) → (zp9 w G).heap[k]? = w.heap[k]?
  | [], _, _, _ => rfl
  | x :: G, w, k, h => by
    rw [zp9, zG3 G _ k (fun y hy => h y (List.mem_cons_of_mem _ hy))]
    have := h x List.mem_cons_self
    simp [zl6, this]
theorem zX7 : ∀ (G : List Ent) (w : World), (G.map Ent.b).Nodup → ∀ x ∈ G, x.b < w.heap.size → (zp9 w G).heap[x.b]? = some x.o
  | [], _, _, x, hx, _ => by cases hx
  | y :: G, w, hnd, x, hx, hlt => by
    simp only [List.map_cons, List.nodup_cons] at hnd
    rcases List.mem_cons.1 hx with rfl | hx
    · rw [zp9, zG3 G _ _ (fun z hz e => hnd.1 (List.mem_map.2 ⟨z, hz, e⟩))]
      simp [zl6, hlt]
    · rw [zp9]
      exact zX7 G _ hnd.2 x hx (by simpa [zl6] using hlt)
theorem Turn.rep {w0 : World} {L G L' : List Ent} (hT : Turn L G L') : ∀ {w : World}, Rep w0 w L → Rep w0 (zp9 w G) L' := by
  induction hT with
  | nil => intro w h; exact h
  | cons hu _ ih => intro w h; exact ih (h.upd hu)
theorem Rep.turned {w0 w w' : World} {L G L' N : List Ent} (h : Rep w0 w L) (hT : Turn L G L') (hN : ∀ x ∈ N, x.own = true) (hG : ∀ x ∈ G, x.b < w.heap.size) (hw : Rep w w' (N ++ G)) : Rep w0 w' (N ++ L') := by
  have hnd := hw.nd
  rw [List.map_append, List.nodup_append] at hnd
  refine (hT.rep h).beside (N := N) ⟨?_, ?_, ?_, ?_, fun x hx => hw.ok x (List.mem_append_left _ hx), fun x hx ho => by rw [zv5]; exact hw.own x (List.mem_append_left _ hx) ho, hnd.1, fun b hb hx => ?_⟩ hN
  · rw [(zv4 G w).1]; exact hw.os
  · rw [(zv4 G w).2.1]; exact hw.tape
  · rw [(zv4 G w).2.2]; exact hw.output
  · rw [zv5]; exact hw.size
  · rw [zv5] at hb
    by_cases hbG : ∀ x ∈ G, x.b ≠ b
    · rw [zG3 G w b hbG]
      exact hw.frame b hb fun x hxa => by
        rcases List.mem_append.1 hxa with hxa | hxa
        · exact hx x hxa
        · exact hbG x hxa
    · have : ∃ x ∈ G, x.b = b := Classical.byContradiction fun hc => hbG fun x hx e => hc ⟨x, hx, e⟩
      obtain ⟨x, hxG, rfl⟩ := this
      rw [zX7 G w hnd.2.1 x hxG (hG x hxG)]
      exact hw.ok x (List.mem_append_right _ hxG)
section
variable {r : Option Nat} {P : Program} {n : Nat} {D : List Deferred} {w0 : World} {F : List (Nat × Value)} {L L' G : List Ent} {Q : Exit → Act → World → Prop} {ops : Array Oper}
variable {d : Tmp} {ty : TypeId} {pos : String} {af : Array Edge} {rest : List Oper}
end
end Go.Sx
namespace Go.Sx
open Go Go.RowKit
section
variable {r : Option Nat} {P : Program} {n : Nat} {D : List Deferred} {w0 : World} {F : List (Nat × Value)} {L L0 L' : List Ent} {Q : Exit → Act → World → Prop} {ops : Array Oper}
variable {d : Tmp} {ty : TypeId} {pos : String} {af : Array Edge} {rest : List Oper}
theorem w7 {t : TypeId} {x : Operand} (h : St n D w0 F L (WL r P ops Q (⟨some d, .load t x, ty, pos, af, none⟩ :: rest))) :
    St n D w0 F L (WL r P ops Q (⟨some d, .load t x, ty, pos, af, none⟩ :: rest)) := h
theorem u9 {t e : TypeId} {x : Operand} {b off : Nat} {l : List Value} {fz : Nat × Nat} {v : Value} (hA : TA P t false := by infer_instance) (hx : ev F x = some (.pointer (some ⟨b, off, none⟩)) := by exact rfl) (hk : Kn w0 L b (.cells l.toArray e fz) := by (first | exact Kn.old (by assumption) rfl | (apply Kn.oldA; assumption; ((focus (repeat (first | exact AO.nil | apply AO.cons | (apply AO.app; assumption)))) <;> fail)) | (apply Kn.apart; assumption; ((focus (repeat (first | exact Apart.nil | apply Apart.own | (apply Apart.given; assumption) | (apply Apart.app; assumption)))) <;> fail)) | (refine Kn.at ?_; ((focus (repeat (first | assumption | exact At.hd | refine At.tl ?_ | (refine At.left ?_; assumption) | refine At.right ?_))) <;> fail)))) (hv : Nth l off v := by (repeat (first | exact Nth.z | apply Nth.s))) (hd : Nat.ble (d + 1) n = true := by exact rfl) (h : St n D w0 ((d, v) :: F) L (WL r P ops Q rest)) :
    St n D w0 F L (WL r P ops Q (⟨some d, .load t x, ty, pos, af, none⟩ :: rest)) := yJ1 hA hx hk hv hd h
theorem y9 {t e : TypeId} {k : Nat} {x : Operand} {b : Nat} {l : List Value} {fz : Nat × Nat} (hA : TA P t true := by infer_instance) (hS : TS P t k := by infer_instance) (hx : ev F x = some (.pointer (some ⟨b, 0, none⟩)) := by exact rfl) (hk : Kn w0 L b (.cells l.toArray e fz) := by (first | exact Kn.old (by assumption) rfl | (apply Kn.oldA; assumption; ((focus (repeat (first | exact AO.nil | apply AO.cons | (apply AO.app; assumption)))) <;> fail)) | (apply Kn.apart; assumption; ((focus (repeat (first | exact Apart.nil | apply Apart.own | (apply Apart.given; assumption) | (apply Apart.app; assumption)))) <;> fail)) | (refine Kn.at ?_; ((focus (repeat (first | assumption | exact At.hd | refine At.tl ?_ | (refine At.left ?_; assumption) | refine At.right ?_))) <;> fail)))) (hl : l.length = k := by exact rfl) (hd : Nat.ble (d + 1) n = true := by exact rfl) (h : St n D w0 ((d, .agg l.toArray) :: F) L (WL r P ops Q rest)) :
    St n D w0 F L (WL r P ops Q (⟨some d, .load t x, ty, pos, af, none⟩ :: rest)) := yr0 hA hS hx hk hl hd h
theorem zT5 {x y : Operand} {t u : TypeId} (h : St n D w0 F L (WL r P ops Q (⟨some d, .binOp .eql t x y u, ty, pos, af, none⟩ :: rest))) :
    St n D w0 F L (WL r P ops Q (⟨some d, .binOp .eql t x y u, ty, pos, af, none⟩ :: rest)) := h
theorem yz8 {x y : Operand} {t u : TypeId} {ds : List TypeDesc} {xs ys : List Value} {p : Prop} (hQ : TQ P t ds := by infer_instance) (hx : ev F x = some (.agg xs.toArray) := by exact rfl) (hy : ev F y = some (.agg ys.toArray) := by exact rfl) (he : EqP ds xs ys p := by (repeat (first | exact EqP.int1 | exact EqP.bool1 | apply EqP.int | apply EqP.bool))) (hd : Nat.ble (d + 1) n = true := by exact rfl) (h : St n D w0 ((d, .bool (B p)) :: F) L (WL r P ops Q rest)) :
    St n D w0 F L (WL r P ops Q (⟨some d, .binOp .eql t x y u, ty, pos, af, none⟩ :: rest)) := yD4 hQ hx hy he hd h
theorem zT6 {x y : Operand} {t u : TypeId} (h : St n D w0 F L (WL r P ops Q (⟨some d, .binOp .neq t x y u, ty, pos, af, none⟩ :: rest))) :
    St n D w0 F L (WL r P ops Q (⟨some d, .binOp .neq t x y u, ty, pos, af, none⟩ :: rest)) := h
theorem yz9 {x y : Operand} {t u : TypeId} {ds : List TypeDesc} {xs ys : List Value} {p : Prop} (hQ : TQ P t ds := by infer_instance) (hx : ev F x = some (.agg xs.toArray) := by exact rfl) (hy : ev F y = some (.agg ys.toArray) := by exact rfl) (he : EqP ds xs ys p := by (repeat (first | exact EqP.int1 | exact EqP.bool1 | apply EqP.int | apply EqP.bool))) (hd : Nat.ble (d + 1) n = true := by exact rfl) (h : St n D w0 ((d, .bool (B (¬ p))) :: F) L (WL r P ops Q rest)) :
    St n D w0 F L (WL r P ops Q (⟨some d, .binOp .neq t x y u, ty, pos, af, none⟩ :: rest)) := yD9 hQ hx hy he hd h
theorem q7 {t : TypeId} {x y : Operand} (h : St n D w0 F L (WL r P ops Q (⟨none, .store t x y, ty, pos, af, none⟩ :: rest))) :
    St n D w0 F L (WL r P ops Q (⟨none, .store t x y, ty, pos, af, none⟩ :: rest)) := h
theorem q8 {t e : TypeId} {x y : Operand} {b off : Nat} {v : Value} {l l' : List Value} {L' : List Ent} (hS : TS P t 1 := by infer_instance) (hx : ev F x = some (.pointer (some ⟨b, off, none⟩)) := by exact rfl) (hy : ev F y = some v := by exact rfl) (h1 : v.oneCell' = true := by exact rfl) (hat : At L b (Ce l e) := by ((focus (repeat (first | assumption | exact At.hd | refine At.tl ?_ | (refine At.left ?_; assumption) | refine At.right ?_))) <;> fail)) (hp : LPut l off [v] l' := by (repeat (first | exact LPut.done | apply LPut.put | apply LPut.skip))) (hu : Upd L b (Ce l e) (Ce l' e) L' := by (repeat (first | exact Upd.hd | apply Upd.tl | apply Upd.right))) (h : St n D w0 F L' (WL r P ops Q rest)) :
    St n D w0 F L (WL r P ops Q (⟨none, .store t x y, ty, pos, af, none⟩ :: rest)) := ye5 hS hx hy h1 hat hp hu h
theorem q9 {t e : TypeId} {k : Nat} {x y : Operand} {b off : Nat} {vs l l' : List Value} {L' : List Ent} (hS : TS P t k := by infer_instance) (hx : ev F x = some (.pointer (some ⟨b, off, none⟩)) := by exact rfl) (hy : ev F y = some (.agg vs.toArray) := by exact rfl) (hk : vs.length = k := by exact rfl) (h1 : vs.all (·.oneCell') = true := by exact rfl) (hat : At L b (Ce l e) := by ((focus (repeat (first | assumption | exact At.hd | refine At.tl ?_ | (refine At.left ?_; assumption) | refine At.right ?_))) <;> fail)) (hp : LPut l off vs l' := by (repeat (first | exact LPut.done | apply LPut.put | apply LPut.skip))) (hu : Upd L b (Ce l e) (Ce l' e) L' := by (repeat (first | exact Upd.hd | apply Upd.tl | apply Upd.right))) (h : St n D w0 F L' (WL r P ops Q rest)) :
    St n D w0 F L (WL r P ops Q (⟨none, .store t x y, ty, pos, af, none⟩ :: rest)) := yx4 hS hx hy hk h1 hat hp hu h
theorem g7 {t : TypeId} {xs : List (Nat × Operand)} (h : St n D w0 F L (WL r P ops Q (⟨some d, .build t xs.toArray, ty, pos, af, none⟩ :: rest))) :
    St n D w0 F L (WL r P ops Q (⟨some d, .build t xs.toArray, ty, pos, af, none⟩ :: rest)) := h
theorem a8 {t : TypeId} {pl : List (Nat × Nat)} {xs : List (Nat × Operand)} {vs : List (Nat × Value)} {z : Value} {zl out : List Value} (hP : TPl P t pl := by infer_instance) (hZ : TZ P t z zl := by infer_instance) (hxs : Parts F xs vs := by (repeat (first | exact Parts.nil | apply Parts.cons rfl))) (hf : Fill (fun i : Nat => pl[i]?) zl vs out := by (repeat (first | exact Fill.nil | (apply Fill.cons rfl rfl rfl; (repeat (first | exact LPut.done | apply LPut.put | apply LPut.skip)))))) (hd : Nat.ble (d + 1) n = true := by exact rfl) (h : St n D w0 ((d, .agg out.toArray) :: F) L (WL r P ops Q rest)) :
    St n D w0 F L (WL r P ops Q (⟨some d, .build t xs.toArray, ty, pos, af, none⟩ :: rest)) := yD3 hP hZ hxs hf hd h
theorem zk0 {fn : Fn} {xs ys : List Operand} (h : St n D w0 F L (WL r P ops Q (⟨some d, .makeFunc fn xs.toArray ys.toArray, ty, pos, af, none⟩ :: rest))) :
    St n D w0 F L (WL r P ops Q (⟨some d, .makeFunc fn xs.toArray ys.toArray, ty, pos, af, none⟩ :: rest)) := h
theorem zA0 {fn : Fn} {xs ys : List Operand} {vs us : List Value} (hxs : Evs F xs vs := by (repeat (first | exact Evs.nil | apply Evs.cons rfl))) (hys : Evs F ys us := by (repeat (first | exact Evs.nil | apply Evs.cons rfl))) (hd : Nat.ble (d + 1) n = true := by exact rfl) (h : St n D w0 ((d, .func fn vs.toArray us.toArray) :: F) L (WL r P ops Q rest)) :
    St n D w0 F L (WL r P ops Q (⟨some d, .makeFunc fn xs.toArray ys.toArray, ty, pos, af, none⟩ :: rest)) := yJ0 hxs hys hd h
theorem m9 {t : TypeId} {m : Nat} {xs : List (Nat × Operand)} (h : St n D w0 F L (WL r P ops Q (⟨some d, .buildSlice t m xs.toArray, ty, pos, af, none⟩ :: rest))) :
    St n D w0 F L (WL r P ops Q (⟨some d, .buildSlice t m xs.toArray, ty, pos, af, none⟩ :: rest)) := h
theorem l9 {t e : TypeId} {k m : Nat} {z : Value} {zl zs out : List Value} {xs : List (Nat × Operand)} {vs : List (Nat × Value)} (hU : TU P t (.slice e) := by infer_instance) (hS : TS P e k := by infer_instance) (hZ : TZ P e z zl := by infer_instance) (hm : m * k ≤ 16777216 := by decide) (hk : zl.length = k := by exact rfl) (hk0 : 0 < k := by decide) (hzs : (List.replicate m zl).flatten = zs := by (simp only [List.replicate_succ, List.replicate_zero, List.flatten_cons, List.flatten_nil, List.cons_append, List.nil_append, List.append_nil]; exact rfl)) (hxs : Parts F xs vs := by (repeat (first | exact Parts.nil | apply Parts.cons rfl))) (hf : Fill (fun i => some (i * k, k)) zs vs out := by (repeat (first | exact Fill.nil | (apply Fill.cons rfl rfl rfl; (repeat (first | exact LPut.done | apply LPut.put | apply LPut.skip)))))) (hd : Nat.ble (d + 1) n = true := by exact rfl) (h : ∀ b, St n D w0 ((d, .slice (some ⟨b, 0, none⟩) m m) :: F) (⟨b, Ce out e, true⟩ :: L) (WL r P ops Q rest)) :
    St n D w0 F L (WL r P ops Q (⟨some d, .buildSlice t m xs.toArray, ty, pos, af, none⟩ :: rest)) := zZ9 hU hS hZ hm hk hk0 hzs hxs hf hd h
theorem zg7 {t : TypeId} {x y : Operand} (h : St n D w0 F L (WL r P ops Q (⟨some d, .lookup t x y false, ty, pos, af, none⟩ :: rest))) :
    St n D w0 F L (WL r P ops Q (⟨some d, .lookup t x y false, ty, pos, af, none⟩ :: rest)) := h
theorem zk5 {t k e : TypeId} {kd : IntKind} {x y : Operand} {b : Nat} {i : Int} {l : List Int} (hU : TU P t (.map k e) := by infer_instance) (hV : TU P k (.int kd) := by infer_instance) (hZ : TZ P e (.bool false) [.bool false] := by infer_instance) (hx : ev F x = some (.map (some b)) := by exact rfl) (hy : ev F y = some (.int kd i) := by exact rfl) (hk : Kn w0 L b (MO (zx9 kd l)) := by (first | exact Kn.old (by assumption) rfl | (apply Kn.oldA; assumption; ((focus (repeat (first | exact AO.nil | apply AO.cons | (apply AO.app; assumption)))) <;> fail)) | (apply Kn.apart; assumption; ((focus (repeat (first | exact Apart.nil | apply Apart.own | (apply Apart.given; assumption) | (apply Apart.app; assumption)))) <;> fail)) | (refine Kn.at ?_; ((focus (repeat (first | assumption | exact At.hd | refine At.tl ?_ | (refine At.left ?_; assumption) | refine At.right ?_))) <;> fail)))) (hm : l.Nodup := by assumption) (hd : Nat.ble (d + 1) n = true := by exact rfl) (h : St n D w0 ((d, .bool (decide (i ∈ l))) :: F) L (WL r P ops Q rest)) :
    St n D w0 F L (WL r P ops Q (⟨some d, .lookup t x y false, ty, pos, af, none⟩ :: rest)) := yD7 hU hV hZ hx hy hk hm hd h
theorem zq1 {t : TypeId} {x y z : Operand} (h : St n D w0 F L (WL r P ops Q (⟨none, .mapUpdate t x y z, ty, pos, af, none⟩ :: rest))) :
    St n D w0 F L (WL r P ops Q (⟨none, .mapUpdate t x y z, ty, pos, af, none⟩ :: rest)) := h
theorem zA1 {t k e : TypeId} {kd : IntKind} {x y z : Operand} {b : Nat} {i : Int} {l : List Int} (hU : TU P t (.map k e) := by infer_instance) (hV : TU P k (.int kd) := by infer_instance) (hx : ev F x = some (.map (some b)) := by exact rfl) (hy : ev F y = some (.int kd i) := by exact rfl) (hz : ev F z = some (.bool true) := by exact rfl) (hat : At L b (MO (zx9 kd l)) := by ((focus (repeat (first | assumption | exact At.hd | refine At.tl ?_ | (refine At.left ?_; assumption) | refine At.right ?_))) <;> fail)) (hm : l.Nodup := by assumption) (hi : i ∉ l := by assumption) (hu : Upd L b (MO (zx9 kd l)) (MO (zx9 kd (l ++ [i]))) L' := by (repeat (first | exact Upd.hd | apply Upd.tl | apply Upd.right))) (h : St n D w0 F L' (WL r P ops Q rest)) :
    St n D w0 F L (WL r P ops Q (⟨none, .mapUpdate t x y z, ty, pos, af, none⟩ :: rest)) := yr2 hU hV hx hy hz hat hm hi hu h
theorem w8 {t e : TypeId} {x : Operand} {b off : Nat} {c : Array Value} {fz : Nat × Nat} {v : Value} (hA : TA P t false := by infer_instance) (hx : ev F x = some (.pointer (some ⟨b, off, none⟩)) := by exact rfl) (hk : Kn w0 L b (.cells c e fz) := by (first | exact Kn.old (by assumption) rfl | (apply Kn.oldA; assumption; ((focus (repeat (first | exact AO.nil | apply AO.cons | (apply AO.app; assumption)))) <;> fail)) | (apply Kn.apart; assumption; ((focus (repeat (first | exact Apart.nil | apply Apart.own | (apply Apart.given; assumption) | (apply Apart.app; assumption)))) <;> fail)) | (refine Kn.at ?_; ((focus (repeat (first | assumption | exact At.hd | refine At.tl ?_ | (refine At.left ?_; assumption) | refine At.right ?_))) <;> fail)))) (hv : c[off]? = some v := by assumption) (hd : Nat.ble (d + 1) n = true := by exact rfl) (h : St n D w0 ((d, v) :: F) L (WL r P ops Q rest)) :
    St n D w0 F L (WL r P ops Q (⟨some d, .load t x, ty, pos, af, none⟩ :: rest)) := yD5 hA hx hk hv hd h
theorem q6 {t e : TypeId} {k : Nat} {x : Operand} {b off : Nat} {c : Array Value} {fz : Nat × Nat} {l : List Value} (hA : TA P t true := by infer_instance) (hS : TS P t k := by infer_instance) (hx : ev F x = some (.pointer (some ⟨b, off, none⟩)) := by exact rfl) (hk : Kn w0 L b (.cells c e fz) := by (first | exact Kn.old (by assumption) rfl | (apply Kn.oldA; assumption; ((focus (repeat (first | exact AO.nil | apply AO.cons | (apply AO.app; assumption)))) <;> fail)) | (apply Kn.apart; assumption; ((focus (repeat (first | exact Apart.nil | apply Apart.own | (apply Apart.given; assumption) | (apply Apart.app; assumption)))) <;> fail)) | (refine Kn.at ?_; ((focus (repeat (first | assumption | exact At.hd | refine At.tl ?_ | (refine At.left ?_; assumption) | refine At.right ?_))) <;> fail)))) (hv : ∀ j v, l[j]? = some v → c[off + j]? = some v := by assumption) (hl : l.length = k := by exact rfl) (hd : Nat.ble (d + 1) n = true := by exact rfl) (h : St n D w0 ((d, .agg l.toArray) :: F) L (WL r P ops Q rest)) :
    St n D w0 F L (WL r P ops Q (⟨some d, .load t x, ty, pos, af, none⟩ :: rest)) := yG9 hA hS hx hk hv hl hd h
theorem q0 {t e : TypeId} {x : Operand} {b p o : Nat} {c : Array Value} {fz : Nat × Nat} {v : Value} {l : List Value} (hA : TA P t false := by infer_instance) (hx : ev F x = some (.pointer (some ⟨b, p + o, none⟩)) := by exact rfl) (hk : Kn w0 L b (.cells c e fz) := by (first | exact Kn.old (by assumption) rfl | (apply Kn.oldA; assumption; ((focus (repeat (first | exact AO.nil | apply AO.cons | (apply AO.app; assumption)))) <;> fail)) | (apply Kn.apart; assumption; ((focus (repeat (first | exact Apart.nil | apply Apart.own | (apply Apart.given; assumption) | (apply Apart.app; assumption)))) <;> fail)) | (refine Kn.at ?_; ((focus (repeat (first | assumption | exact At.hd | refine At.tl ?_ | (refine At.left ?_; assumption) | refine At.right ?_))) <;> fail)))) (hE : ∀ j v, l[j]? = some v → c[p + j]? = some v := by assumption) (hv : Nth l o v := by (repeat (first | exact Nth.z | apply Nth.s))) (hd : Nat.ble (d + 1) n = true := by exact rfl) (h : St n D w0 ((d, v) :: F) L (WL r P ops Q rest)) :
    St n D w0 F L (WL r P ops Q (⟨some d, .load t x, ty, pos, af, none⟩ :: rest)) := yL0 hA hx hk hE hv hd h
theorem zE6 {t : TypeId} {x y : Operand} (h : St n D w0 F L (WL r P ops Q (⟨some d, .makeSlice t x y, ty, pos, af, none⟩ :: rest))) :
    St n D w0 F L (WL r P ops Q (⟨some d, .makeSlice t x y, ty, pos, af, none⟩ :: rest)) := h
theorem zJ1 {t e : TypeId} {k bytes m c : Nat} {kl kc : IntKind} {z : Value} {zl : List Value} {x y : Operand} (hU : TU P t (.slice e) := by infer_instance) (hE : TE P e k bytes z := by infer_instance) (hzl : z.cells = zl.toArray := by exact rfl) (hx : ev F x = some (.int kl m) := by exact rfl) (hy : ev F y = some (.int kc c) := by exact rfl) (hk : zl.length = k := by exact rfl) (hk0 : 0 < k := by decide) (hm : m ≤ c ∧ c ≤ 140737488355328 ∧ c * bytes ≤ 140737488355328 := by (first | omega | (simp only []; omega))) (hd : Nat.ble (d + 1) n = true := by exact rfl) (h : ∀ b, St n D w0 ((d, .slice (some ⟨b, 0, none⟩) m c) :: F) (⟨b, Ce ((List.replicate c zl).flatten) e, true⟩ :: L) (WL r P ops Q rest)) :
    St n D w0 F L (WL r P ops Q (⟨some d, .makeSlice t x y, ty, pos, af, none⟩ :: rest)) := ye3 hU hE hzl hx hy hk hk0 hm hd h
end
section
variable {P : Program} {n : Nat} {D : List Deferred} {w0 : World} {F : List (Nat × Value)} {L L0 L' : List Ent} {J J1 : Made} {Φ : zf2} {X : Act → World → Prop} {kq k : Nat} {ops : Array Oper}
variable {d : Tmp} {ty : TypeId} {pos : String} {af : Array Edge} {rest : List Oper}
theorem m0 {t : TypeId} {x : Operand} (h : St n D w0 F L (WQ P ops w0 L Φ X kq J (⟨some d, .load t x, ty, pos, af, none⟩ :: rest))) :
    St n D w0 F L (WQ P ops w0 L Φ X kq J (⟨some d, .load t x, ty, pos, af, none⟩ :: rest)) := h
theorem k8 {t e : TypeId} {x : Operand} {b off : Nat} {l : List Value} {fz : Nat × Nat} {v : Value} (hA : TA P t false := by infer_instance) (hx : ev F x = some (.pointer (some ⟨b, off, none⟩)) := by exact rfl) (hΦ : Φ kq = none := by exact rfl) (hJ : SubJ ((anc ops).getD kq 0) J1 J := by (focus (repeat (first | (apply SubJ.keep; (decide +kernel)) | apply SubJ.drop | exact SubJ.nil)))) (hk : Kn w0 (za9 J1 L) b (.cells l.toArray e fz) := by (first | exact Kn.old (by assumption) rfl | (apply Kn.oldA; assumption; ((focus (repeat (first | exact AO.nil | apply AO.cons | (apply AO.app; assumption)))) <;> fail)) | (apply Kn.apart; assumption; ((focus (repeat (first | exact Apart.nil | apply Apart.own | (apply Apart.given; assumption) | (apply Apart.app; assumption)))) <;> fail)) | (refine Kn.at ?_; ((focus (repeat (first | assumption | exact At.hd | refine At.tl ?_ | (refine At.left ?_; assumption) | refine At.right ?_))) <;> fail)))) (hv : Nth l off v := by (repeat (first | exact Nth.z | apply Nth.s))) (hd : Nat.ble (d + 1) n = true := by exact rfl) (h : St n D w0 ((d, v) :: F) L (WQ P ops w0 L Φ X (kq + 1) J rest)) :
    St n D w0 F L (WQ P ops w0 L Φ X kq J (⟨some d, .load t x, ty, pos, af, none⟩ :: rest)) := yJ3 hA hx hΦ hJ hk hv hd h
theorem p7 {t e : TypeId} {k : Nat} {x : Operand} {b : Nat} {l : List Value} {fz : Nat × Nat} (hA : TA P t true := by infer_instance) (hS : TS P t k := by infer_instance) (hx : ev F x = some (.pointer (some ⟨b, 0, none⟩)) := by exact rfl) (hΦ : Φ kq = none := by exact rfl) (hJ : SubJ ((anc ops).getD kq 0) J1 J := by (focus (repeat (first | (apply SubJ.keep; (decide +kernel)) | apply SubJ.drop | exact SubJ.nil)))) (hk : Kn w0 (za9 J1 L) b (.cells l.toArray e fz) := by (first | exact Kn.old (by assumption) rfl | (apply Kn.oldA; assumption; ((focus (repeat (first | exact AO.nil | apply AO.cons | (apply AO.app; assumption)))) <;> fail)) | (apply Kn.apart; assumption; ((focus (repeat (first | exact Apart.nil | apply Apart.own | (apply Apart.given; assumption) | (apply Apart.app; assumption)))) <;> fail)) | (refine Kn.at ?_; ((focus (repeat (first | assumption | exact At.hd | refine At.tl ?_ | (refine At.left ?_; assumption) | refine At.right ?_))) <;> fail)))) (hl : l.length = k := by exact rfl) (hd : Nat.ble (d + 1) n = true := by exact rfl) (h : St n D w0 ((d, .agg l.toArray) :: F) L (WQ P ops w0 L Φ X (kq + 1) J rest)) :
    St n D w0 F L (WQ P ops w0 L Φ X kq J (⟨some d, .load t x, ty, pos, af, none⟩ :: rest)) := yr6 hA hS hx hΦ hJ hk hl hd h
theorem zh2 {x y : Operand} {t u : TypeId} (h : St n D w0 F L (WQ P ops w0 L Φ X kq J (⟨some d, .binOp .eql t x y u, ty, pos, af, none⟩ :: rest))) :
    St n D w0 F L (WQ P ops w0 L Φ X kq J (⟨some d, .binOp .eql t x y u, ty, pos, af, none⟩ :: rest)) := h
theorem zr4 {x y : Operand} {t u : TypeId} {ds : List TypeDesc} {xs ys : List Value} {p : Prop} (hQ : TQ P t ds := by infer_instance) (hx : ev F x = some (.agg xs.toArray) := by exact rfl) (hy : ev F y = some (.agg ys.toArray) := by exact rfl) (he : EqP ds xs ys p := by (repeat (first | exact EqP.int1 | exact EqP.bool1 | apply EqP.int | apply EqP.bool))) (hd : Nat.ble (d + 1) n = true := by exact rfl) (h : St n D w0 ((d, .bool (B p)) :: F) L (WQ P ops w0 L Φ X (kq + 1) J rest)) :
    St n D w0 F L (WQ P ops w0 L Φ X kq J (⟨some d, .binOp .eql t x y u, ty, pos, af, none⟩ :: rest)) := yE8 hQ hx hy he hd h
theorem zx1 {t : TypeId} {xs : List (Nat × Operand)} (h : St n D w0 F L (WQ P ops w0 L Φ X kq J (⟨some d, .build t xs.toArray, ty, pos, af, none⟩ :: rest))) :
    St n D w0 F L (WQ P ops w0 L Φ X kq J (⟨some d, .build t xs.toArray, ty, pos, af, none⟩ :: rest)) := h
theorem zD2 {t : TypeId} {pl : List (Nat × Nat)} {xs : List (Nat × Operand)} {vs : List (Nat × Value)} {z : Value} {zl out : List Value} (hP : TPl P t pl := by infer_instance) (hZ : TZ P t z zl := by infer_instance) (hxs : Parts F xs vs := by (repeat (first | exact Parts.nil | apply Parts.cons rfl))) (hf : Fill (fun i : Nat => pl[i]?) zl vs out := by (repeat (first | exact Fill.nil | (apply Fill.cons rfl rfl rfl; (repeat (first | exact LPut.done | apply LPut.put | apply LPut.skip)))))) (hd : Nat.ble (d + 1) n = true := by exact rfl) (h : St n D w0 ((d, .agg out.toArray) :: F) L (WQ P ops w0 L Φ X (kq + 1) J rest)) :
    St n D w0 F L (WQ P ops w0 L Φ X kq J (⟨some d, .build t xs.toArray, ty, pos, af, none⟩ :: rest)) := yE7 hP hZ hxs hf hd h
theorem zr9 {t : TypeId} {x : Operand} (h : St n D w0 F L (WQ P ops w0 L Φ X kq J (⟨some d, .call ⟨.builtin .len, #[x], #[t]⟩, ty, pos, af, none⟩ :: rest))) :
    St n D w0 F L (WQ P ops w0 L Φ X kq J (⟨some d, .call ⟨.builtin .len, #[x], #[t]⟩, ty, pos, af, none⟩ :: rest)) := h
theorem yb9 {t e : TypeId} {x : Operand} {a0 : Option Addr} {len cap : Nat} (hU : TU P t (.slice e) := by infer_instance) (hx : ev F x = some (.slice a0 len cap) := by exact rfl) (hΦ : Φ kq = none := by exact rfl) (hJ : SubJ ((anc ops).getD kq 0) J1 J := by (focus (repeat (first | (apply SubJ.keep; (decide +kernel)) | apply SubJ.drop | exact SubJ.nil)))) (hd : Nat.ble (d + 1) n = true := by exact rfl) (h : St n D w0 ((d, .int .i64 len) :: F) L (WQ P ops w0 L Φ X (kq + 1) J rest)) :
    St n D w0 F L (WQ P ops w0 L Φ X kq J (⟨some d, .call ⟨.builtin .len, #[x], #[t]⟩, ty, pos, af, none⟩ :: rest)) := q_len hU hx hΦ hJ hd h
theorem zb1 {x : Operand} (h : St n D w0 F L (WQ P ops w0 L Φ X kq J (⟨some d, .nilCheck x, ty, pos, af, none⟩ :: rest))) :
    St n D w0 F L (WQ P ops w0 L Φ X kq J (⟨some d, .nilCheck x, ty, pos, af, none⟩ :: rest)) := h
theorem zb5 {x : Operand} {p : Addr} (hx : ev F x = some (.pointer (some p)) := by exact rfl) (hΦ : Φ kq = none := by exact rfl) (hJ : SubJ ((anc ops).getD kq 0) J1 J := by (focus (repeat (first | (apply SubJ.keep; (decide +kernel)) | apply SubJ.drop | exact SubJ.nil)))) (hd : Nat.ble (d + 1) n = true := by exact rfl) (h : St n D w0 ((d, .pointer (some p)) :: F) L (WQ P ops w0 L Φ X (kq + 1) J rest)) :
    St n D w0 F L (WQ P ops w0 L Φ X kq J (⟨some d, .nilCheck x, ty, pos, af, none⟩ :: rest)) := yk6 hx hΦ hJ hd h
theorem m6 {t e : TypeId} {x : Operand} {b off : Nat} {c : Array Value} {fz : Nat × Nat} {v : Value} (hA : TA P t false := by infer_instance) (hx : ev F x = some (.pointer (some ⟨b, off, none⟩)) := by exact rfl) (hΦ : Φ kq = none := by exact rfl) (hJ : SubJ ((anc ops).getD kq 0) J1 J := by (focus (repeat (first | (apply SubJ.keep; (decide +kernel)) | apply SubJ.drop | exact SubJ.nil)))) (hk : Kn w0 (za9 J1 L) b (.cells c e fz) := by (first | exact Kn.old (by assumption) rfl | (apply Kn.oldA; assumption; ((focus (repeat (first | exact AO.nil | apply AO.cons | (apply AO.app; assumption)))) <;> fail)) | (apply Kn.apart; assumption; ((focus (repeat (first | exact Apart.nil | apply Apart.own | (apply Apart.given; assumption) | (apply Apart.app; assumption)))) <;> fail)) | (refine Kn.at ?_; ((focus (repeat (first | assumption | exact At.hd | refine At.tl ?_ | (refine At.left ?_; assumption) | refine At.right ?_))) <;> fail)))) (hv : c[off]? = some v := by assumption) (hd : Nat.ble (d + 1) n = true := by exact rfl) (h : St n D w0 ((d, v) :: F) L (WQ P ops w0 L Φ X (kq + 1) J rest)) :
    St n D w0 F L (WQ P ops w0 L Φ X kq J (⟨some d, .load t x, ty, pos, af, none⟩ :: rest)) := yE9 hA hx hΦ hJ hk hv hd h
theorem d8 {t e : TypeId} {k : Nat} {x : Operand} {b off : Nat} {c : Array Value} {fz : Nat × Nat} {l : List Value} (hA : TA P t true := by infer_instance) (hS : TS P t k := by infer_instance) (hx : ev F x = some (.pointer (some ⟨b, off, none⟩)) := by exact rfl) (hΦ : Φ kq = none := by exact rfl) (hJ : SubJ ((anc ops).getD kq 0) J1 J := by (focus (repeat (first | (apply SubJ.keep; (decide +kernel)) | apply SubJ.drop | exact SubJ.nil)))) (hk : Kn w0 (za9 J1 L) b (.cells c e fz) := by (first | exact Kn.old (by assumption) rfl | (apply Kn.oldA; assumption; ((focus (repeat (first | exact AO.nil | apply AO.cons | (apply AO.app; assumption)))) <;> fail)) | (apply Kn.apart; assumption; ((focus (repeat (first | exact Apart.nil | apply Apart.own | (apply Apart.given; assumption) | (apply Apart.app; assumption)))) <;> fail)) | (refine Kn.at ?_; ((focus (repeat (first | assumption | exact At.hd | refine At.tl ?_ | (refine At.left ?_; assumption) | refine At.right ?_))) <;> fail)))) (hv : ∀ j v, l[j]? = some v → c[off + j]? = some v := by assumption) (hl : l.length = k := by exact rfl) (hd : Nat.ble (d + 1) n = true := by exact rfl) (h : St n D w0 ((d, .agg l.toArray) :: F) L (WQ P ops w0 L Φ X (kq + 1) J rest)) :
    St n D w0 F L (WQ P ops w0 L Φ X kq J (⟨some d, .load t x, ty, pos, af, none⟩ :: rest)) := yL4 hA hS hx hΦ hJ hk hv hl hd h
theorem d7 {t e : TypeId} {x : Operand} {b p o : Nat} {c : Array Value} {fz : Nat × Nat} {v : Value} {l : List Value} (hA : TA P t false := by infer_instance) (hx : ev F x = some (.pointer (some ⟨b, p + o, none⟩)) := by exact rfl) (hΦ : Φ kq = none := by exact rfl) (hJ : SubJ ((anc ops).getD kq 0) J1 J := by (focus (repeat (first | (apply SubJ.keep; (decide +kernel)) | apply SubJ.drop | exact SubJ.nil)))) (hk : Kn w0 (za9 J1 L) b (.cells c e fz) := by (first | exact Kn.old (by assumption) rfl | (apply Kn.oldA; assumption; ((focus (repeat (first | exact AO.nil | apply AO.cons | (apply AO.app; assumption)))) <;> fail)) | (apply Kn.apart; assumption; ((focus (repeat (first | exact Apart.nil | apply Apart.own | (apply Apart.given; assumption) | (apply Apart.app; assumption)))) <;> fail)) | (refine Kn.at ?_; ((focus (repeat (first | assumption | exact At.hd | refine At.tl ?_ | (refine At.left ?_; assumption) | refine At.right ?_))) <;> fail)))) (hE : ∀ j v, l[j]? = some v → c[p + j]? = some v := by assumption) (hv : Nth l o v := by (repeat (first | exact Nth.z | apply Nth.s))) (hd : Nat.ble (d + 1) n = true := by exact rfl) (h : St n D w0 ((d, v) :: F) L (WQ P ops w0 L Φ X (kq + 1) J rest)) :
    St n D w0 F L (WQ P ops w0 L Φ X kq J (⟨some d, .load t x, ty, pos, af, none⟩ :: rest)) := yL3 hA hx hΦ hJ hk hE hv hd h
theorem zs3 {t : TypeId} {x y : Operand} (h : St n D w0 F L (WQ P ops w0 L Φ X k J (⟨none, .store t x y, ty, pos, af, none⟩ :: rest))) :
    St n D w0 F L (WQ P ops w0 L Φ X k J (⟨none, .store t x y, ty, pos, af, none⟩ :: rest)) := h
theorem zq0 {t e : TypeId} {kk : Nat} {x y : Operand} {b off : Nat} {vs l l' : List Value} {J' : Made} (hS : TS P t kk := by infer_instance) (hx : ev F x = some (.pointer (some ⟨b, off, none⟩)) := by exact rfl) (hy : ev F y = some (.agg vs.toArray) := by exact rfl) (hk : vs.length = kk := by exact rfl) (h1 : vs.all (·.oneCell') = true := by exact rfl) (hat : At (za9 J []) b (Ce l e) := by ((focus (repeat (first | assumption | exact At.hd | refine At.tl ?_ | (refine At.left ?_; assumption) | refine At.right ?_))) <;> fail)) (hp : LPut l off vs l' := by (repeat (first | exact LPut.done | apply LPut.put | apply LPut.skip))) (hu : UpdJ J b (Ce l e) (Ce l' e) J' := by (repeat (first | apply UpdJ.hd; (repeat (first | exact Upd.hd | apply Upd.tl | apply Upd.right)) | apply UpdJ.tl))) (h : St n D w0 F L (WQ P ops w0 L Φ X (k + 1) J' rest)) :
    St n D w0 F L (WQ P ops w0 L Φ X k J (⟨none, .store t x y, ty, pos, af, none⟩ :: rest)) := yr7 hS hx hy hk h1 hat hp hu h
theorem zd9 {t : TypeId} {m : Nat} {xs : List (Nat × Operand)} (h : St n D w0 F L (WQ P ops w0 L Φ X k J (⟨some d, .buildSlice t m xs.toArray, ty, pos, af, none⟩ :: rest))) :
    St n D w0 F L (WQ P ops w0 L Φ X k J (⟨some d, .buildSlice t m xs.toArray, ty, pos, af, none⟩ :: rest)) := h
theorem zf0 {t e : TypeId} {kk m : Nat} {z : Value} {zl zs out : List Value} {xs : List (Nat × Operand)} {vs : List (Nat × Value)} (hU : TU P t (.slice e) := by infer_instance) (hS : TS P e kk := by infer_instance) (hZ : TZ P e z zl := by infer_instance) (hm : m * kk ≤ 16777216 := by decide) (hk : zl.length = kk := by exact rfl) (hk0 : 0 < kk := by decide) (hzs : (List.replicate m zl).flatten = zs := by (simp only [List.replicate_succ, List.replicate_zero, List.flatten_cons, List.flatten_nil, List.cons_append, List.nil_append, List.append_nil]; exact rfl)) (hxs : Parts F xs vs := by (repeat (first | exact Parts.nil | apply Parts.cons rfl))) (hf : Fill (fun i => some (i * kk, kk)) zs vs out := by (repeat (first | exact Fill.nil | (apply Fill.cons rfl rfl rfl; (repeat (first | exact LPut.done | apply LPut.put | apply LPut.skip)))))) (hd : Nat.ble (d + 1) n = true := by exact rfl) (h : ∀ b, St n D w0 ((d, .slice (some ⟨b, 0, none⟩) m m) :: F) L (WQ P ops w0 L Φ X (k + 1) ((k, [⟨b, Ce out e, true⟩]) :: J) rest)) :
    St n D w0 F L (WQ P ops w0 L Φ X k J (⟨some d, .buildSlice t m xs.toArray, ty, pos, af, none⟩ :: rest)) := ya4 hU hS hZ hm hk hk0 hzs hxs hf hd h
theorem zT7 {t : TypeId} {x y : Operand} (h : St n D w0 F L (WQ P ops w0 L Φ X k J (⟨some d, .makeSlice t x y, ty, pos, af, none⟩ :: rest))) :
    St n D w0 F L (WQ P ops w0 L Φ X k J (⟨some d, .makeSlice t x y, ty, pos, af, none⟩ :: rest)) := h
theorem yc0 {t e : TypeId} {kk bytes m c : Nat} {kl kc : IntKind} {z : Value} {zl : List Value} {x y : Operand} (hU : TU P t (.slice e) := by infer_instance) (hE : TE P e kk bytes z := by infer_instance) (hzl : z.cells = zl.toArray := by exact rfl) (hx : ev F x = some (.int kl m) := by exact rfl) (hy : ev F y = some (.int kc c) := by exact rfl) (hk : zl.length = kk := by exact rfl) (hk0 : 0 < kk := by decide) (hm : m ≤ c ∧ c ≤ 140737488355328 ∧ c * bytes ≤ 140737488355328 := by (first | omega | (simp only []; omega))) (hd : Nat.ble (d + 1) n = true := by exact rfl) (h : ∀ b, St n D w0 ((d, .slice (some ⟨b, 0, none⟩) m c) :: F) L (WQ P ops w0 L Φ X (k + 1) ((k, [⟨b, Ce ((List.replicate c zl).flatten) e, true⟩]) :: J) rest)) :
    St n D w0 F L (WQ P ops w0 L Φ X k J (⟨some d, .makeSlice t x y, ty, pos, af, none⟩ :: rest)) := yf0 hU hE hzl hx hy hk hk0 hm hd h
end
end Go.Sx
namespace Go.Sx
open Go Go.RowKit
def Pat {α : Type} (c : Array Value) (off k : Nat) (enc : α → List Value) (xs : List α) : Prop := ∀ i x, xs[i]? = some x → ∀ j u, (enc x)[j]? = some u → c[off + i * k + j]? = some u
def SV {α : Type} (w : World) (k : Nat) (enc : α → List Value) (v : Value) (xs : List α) : Prop :=
  ∃ a cap, v = .slice a xs.length cap ∧ (xs.length ≤ cap ∧ xs.length ≤ 9223372036854775807) ∧ (xs = [] ∨ ∃ b off c e fz, a = some ⟨b, off, none⟩ ∧ w.heap[b]? = some (.cells c e fz) ∧ Pat c off k enc xs)
section
variable {α : Type} {w w' w0 : World} {k : Nat} {enc : α → List Value} {v : Value} {xs : List α}
theorem SV.nil : SV w k enc (.slice none 0 0) ([] : List α) := ⟨none, 0, rfl, ⟨Nat.le_refl _, by simp⟩, .inl rfl⟩
theorem SV.keep {L : List Ent} (h : SV w0 k enc v xs) (hw : Rep w0 w L) (ho : AO L) : SV w k enc v xs := by
  obtain ⟨a, cap, h1, hc, h2⟩ := h
  refine ⟨a, cap, h1, hc, ?_⟩
  rcases h2 with h2 | ⟨b, off, c, e, fz, h2, h3, h4⟩
  · exact .inl h2
  · refine .inr ⟨b, off, c, e, fz, h2, ?_, h4⟩
    rw [(hw.below ho).block b (Array.getElem?_eq_some_iff.1 h3).1]; exact h3
theorem SV.of_kn {b off cap : Nat} {c : Array Value} {e : TypeId} {fz : Nat × Nat} (hk : w.heap[b]? = some (.cells c e fz)) (hc : xs.length ≤ cap ∧ xs.length ≤ 9223372036854775807) (hp : Pat c off k enc xs) : SV w k enc (.slice (some ⟨b, off, none⟩) xs.length cap) xs :=
  ⟨_, _, rfl, hc, .inr ⟨b, off, c, e, fz, rfl, hk, hp⟩⟩
theorem Pat.flat (hk : ∀ x, (enc x).length = k) (xs : List α) (s : List Value) : Pat (xs.flatMap enc ++ s).toArray 0 k enc xs := fun i x hx j u hj => by
  have := flat_get hk xs s i x hx j u hj
  simpa using this
theorem Pat.get {c : Array Value} {off : Nat} (h : Pat c off k enc xs) {m : Nat} {x : α} (hx : xs[m]? = some x) : ∀ j u, (enc x)[j]? = some u → c[off + m * k + j]? = some u := h m x hx
theorem Pat.one {c : Array Value} {off : Nat} (h : Pat c off k enc xs) {m : Nat} {x : α} {u : Value} (hx : xs[m]? = some x) (hu : (enc x)[0]? = some u) : c[off + m * k]? = some u := by
  have := h m x hx 0 u hu; rwa [Nat.add_zero] at this
theorem Pat.cells {c : Array Value} {off : Nat} (hk : ∀ x, (enc x).length = k) (h : Pat c off k enc xs) : ∀ j u, (xs.flatMap enc)[j]? = some u → c[off + j]? = some u := by
  intro j u hj
  have hlt := (List.getElem?_eq_some_iff.1 hj).1
  rw [zq5 hk] at hlt
  have hk0 : 0 < k := by
    rcases Nat.eq_zero_or_pos k with h0 | h0
    · subst h0; omega
    · exact h0
  have hi : j / k < xs.length := (Nat.div_lt_iff_lt_mul hk0).2 hlt
  have hx : xs[j / k]? = some xs[j / k] := List.getElem?_eq_getElem hi
  have hm := Nat.mod_lt j hk0
  have hjk : j / k * k + j % k = j := by rw [Nat.mul_comm]; exact Nat.div_add_mod j k
  have hu : (enc xs[j / k])[j % k]? = some ((enc xs[j / k])[j % k]'(by rw [hk]; exact hm)) := List.getElem?_eq_getElem _
  have h1 := flat_get hk xs [] (j / k) _ hx (j % k) _ hu
  rw [List.append_nil, hjk, hj] at h1
  injection h1 with h1
  have h2 := h (j / k) _ hx (j % k) _ hu
  rw [Nat.add_assoc, hjk, ← h1] at h2
  exact h2
theorem SV.take {n : Nat} (h : SV w k enc v xs) : ∃ a cap, v = .slice a xs.length cap ∧ SV w k enc (.slice a (xs.take n).length cap) (xs.take n) := by
  obtain ⟨a, cap, h1, hc, h2⟩ := h
  refine ⟨a, cap, h1, a, cap, rfl, by simp; omega, ?_⟩
  rcases h2 with rfl | ⟨b, off, c, e, fz, h2, h3, h4⟩
  · exact .inl (by simp)
  · refine .inr ⟨b, off, c, e, fz, h2, h3, fun i x hx => h4 i x ?_⟩
    rw [List.getElem?_take] at hx
    split at hx
    · exact hx
    · cases hx
end
inductive OW {α : Type} (E : TypeId) (k : Nat) (enc : α → List Value) : Value → List α → List Ent → Prop
  | nil : OW E k enc (.slice none 0 0) [] []
  | row {b cap : Nat} {xs : List α} {s : List Value} : (xs.flatMap enc ++ s).length = cap * k → (xs.length ≤ cap ∧ xs.length ≤ 9223372036854775807) → OW E k enc (.slice (some ⟨b, 0, none⟩) xs.length cap) xs [⟨b, Ce (xs.flatMap enc ++ s) E, true⟩]
section
variable {α : Type} {E : TypeId} {k : Nat} {enc : α → List Value} {v : Value} {xs : List α} {N : List Ent}
theorem OW.own (h : OW E k enc v xs N) : ∀ x ∈ N, x.own = true := by cases h <;> simp
theorem OW.parts (h : OW E k enc v xs N) : (v = .slice none 0 0 ∧ xs = [] ∧ N = []) ∨
    ∃ b cap s, v = .slice (some ⟨b, 0, none⟩) xs.length cap ∧ N = [⟨b, Ce (xs.flatMap enc ++ s) E, true⟩] ∧ (xs.flatMap enc ++ s).length = cap * k ∧ xs.length ≤ cap ∧ xs.length ≤ 9223372036854775807 := by
  cases h with
  | nil => exact .inl ⟨rfl, rfl, rfl⟩
  | row h1 h2 => exact .inr ⟨_, _, _, rfl, rfl, h1, h2⟩
theorem OW.open (h : OW E k enc v xs N) : ∃ a cap, v = .slice a xs.length cap ∧ (xs.length ≤ cap ∧ xs.length ≤ 9223372036854775807) ∧ (0 < xs.length → ∃ b s, a = some ⟨b, 0, none⟩ ∧ N = [⟨b, Ce (xs.flatMap enc ++ s) E, true⟩] ∧ (xs.flatMap enc ++ s).length = cap * k) := by
  rcases h.parts with ⟨rfl, rfl, rfl⟩ | ⟨b, cap, s, rfl, rfl, h1, h2⟩
  · exact ⟨none, 0, rfl, ⟨Nat.le_refl _, by simp⟩, fun h => by simp at h⟩
  · exact ⟨_, cap, rfl, h2, fun _ => ⟨b, s, rfl, rfl, h1⟩⟩
theorem OW.sv (hk : ∀ x, (enc x).length = k) (h : OW E k enc v xs N) {w0 w : World} {L L0 : List Ent} (hr : RemL L N L0) (hw : Rep w0 w L) : SV w k enc v xs := by
  have hwp : Rep w0 w (N ++ L0) := hw.perm hr
  rcases h.parts with ⟨rfl, rfl, rfl⟩ | ⟨b, cap, s, rfl, rfl, h1, h2⟩
  · exact SV.nil
  · exact SV.of_kn (hwp.ok _ List.mem_cons_self) h2 (Pat.flat hk xs s)
end
def encI (x : Int) : List Value := [.int .i64 x]
theorem j8 : ∀ x, (encI x).length = 1 := fun _ => rfl
theorem zg4 : ∀ x, (encI x).all (·.oneCell') = true := fun _ => rfl
theorem SV.open {α : Type} {w : World} {k : Nat} {enc : α → List Value} {v : Value} {xs : List α} (h : SV w k enc v xs) : ∃ a cap, v = .slice a xs.length cap ∧ (xs.length ≤ cap ∧ xs.length ≤ 9223372036854775807) ∧
    (0 < xs.length → ∃ b off c e fz, a = some ⟨b, off, none⟩ ∧ w.heap[b]? = some (.cells c e fz) ∧ Pat c off k enc xs) := by
  obtain ⟨a, cap, h1, hc, h2⟩ := h
  refine ⟨a, cap, h1, hc, fun h0 => ?_⟩
  rcases h2 with rfl | h2
  · simp at h0
  · exact h2
theorem SV.at {α : Type} {w0 w : World} {k : Nat} {enc : α → List Value} {L : List Ent} {b cap : Nat} {e : TypeId} {xs : List α} {s : List Value} (henc : ∀ x, (enc x).length = k) (hw : Rep w0 w L) (h : At L b (Ce (xs.flatMap enc ++ s) e)) (hc : xs.length ≤ cap ∧ xs.length ≤ 9223372036854775807) : SV w k enc (.slice (some ⟨b, 0, none⟩) xs.length cap) xs :=
  SV.of_kn (hw.at h) hc (Pat.flat henc xs s)
theorem SV.lit {α : Type} {w0 w : World} {k n : Nat} {enc : α → List Value} {L : List Ent} {b : Nat} {e : TypeId} {l : List Value} (xs : List α) (henc : ∀ x, (enc x).length = k) (hw : Rep w0 w L) (h : At L b (Ce l e)) (hl : l = xs.flatMap enc) (hn : n = xs.length) (hb : n ≤ 9223372036854775807) :
    SV w k enc (.slice (some ⟨b, 0, none⟩) n n) xs := by
  subst hl hn
  exact SV.at (s := []) henc hw (by rw [List.append_nil]; exact h) ⟨Nat.le_refl _, hb⟩
section
variable {r : Option Nat} {P : Program} {n : Nat} {D : List Deferred} {w0 : World} {F : List (Nat × Value)} {L L0 : List Ent} {Q : Exit → Act → World → Prop} {ops : Array Oper}
variable {d : Tmp} {ty : TypeId} {pos : String} {af : Array Edge} {rest : List Oper}
theorem zA6 {t e : TypeId} {a0 a1 : Option Addr} {m c cx : Nat} {w : World} (hU : TU P t (.slice e)) (hm : m ≤ c) {k : Nat} (hS : TS P e k) :
    (Builtin.append_ #[t, t] ty #[.slice a0 m c, .slice a1 0 cx]).run P w = .ok (.slice a0 m c) w := by
  cases a1 with
  | none => cases a0 <;> simp [Builtin.append_, zb2 (TU.h (P := P) (t := t)), TS.h (P := P) (t := e), Builtin.lenOf, Builtin.firstCells, hm, storeCells]
  | some p =>
    have h0 : (loadCells p 0).run P w = .ok #[] w := by simpa using run_loadCells_list (P := P) w p [] (by simp)
    cases a0 <;> simp [Builtin.append_, zb2 (TU.h (P := P) (t := t)), TS.h (P := P) (t := e), Builtin.lenOf, Builtin.firstCells, hm, storeCells, h0]
theorem yw9 {α : Type} {enc : α → List Value} {t e : TypeId} {k bytes : Nat} {z : Value} {x y : Operand} {v vy : Value} {xs ys : List α} {N : List Ent} (hU : TU P t (.slice e)) (hE : TE P e k bytes z) (hS : TS P e k) (hzk : z.cells.size = k) (henc : ∀ x, (enc x).length = k) (h1 : ∀ x, (enc x).all (·.oneCell') = true)
    (hx : ev F x = some v) (hy : ev F y = some vy) (hd : Nat.ble (d + 1) n = true) (hv : OW e k enc v xs N) (hr : RemL L N L0) (hsv : ∀ w, Rep w0 w L → SV w k enc vy ys)
    (hm : (xs.length + ys.length) * bytes ≤ 140737488355328 ∧ xs.length + ys.length ≤ 140737488355328)
    (h : ∀ v' N', OW e k enc v' (xs ++ ys) N' → St n D w0 ((d, v') :: F) (N' ++ L0) (WL r P ops Q rest)) :
    St n D w0 F L (WL r P ops Q (⟨some d, .call ⟨.builtin .append, #[x, y], #[t, t]⟩, ty, pos, af, none⟩ :: rest)) := by
  intro a w ha hw
  have hwp : Rep w0 w (N ++ L0) := hw.perm hr
  obtain ⟨a1, cx, rfl, hcx, hcase⟩ := hsv w hw
  have hfl := zq5 henc ys
  have hflx := zq5 henc xs
  by_cases hys : ys = []
  · subst hys
    obtain ⟨a0, cap, rfl, hcap⟩ : ∃ a0 cap, v = .slice a0 xs.length cap ∧ xs.length ≤ cap := by
      rcases hv.parts with ⟨rfl, rfl, rfl⟩ | ⟨b, cap, s, rfl, rfl, h2, h3⟩
      · exact ⟨none, 0, rfl, Nat.le_refl _⟩
      · exact ⟨_, cap, rfl, h3.1⟩
    refine zi0 (F := F) (L := L) (w0 := w0) rfl rfl (fun a w ha hw => ?_) a w ha hw
    have hrun := zA6 (P := P) (ty := ty) (a0 := a0) (a1 := a1) (cx := cx) (w := w) hU hcap hS
    rw [zI5 (ha.eval hx) (ha.eval hy) (by simpa using hrun)]
    exact h _ N (by simpa using hv) _ _ (ha.put (Nat.le_of_ble_eq_true hd) _) (hw.perm hr)
  · have hpos : 0 < ys.length := List.length_pos_iff.2 hys
    rcases hcase with h0 | ⟨b, off, c, e', fz, rfl, hk, hp⟩
    · exact absurd h0 hys
    have hcells := Pat.cells henc hp
    rcases hv.parts with ⟨rfl, rfl, rfl⟩ | ⟨b0, cap0, s0, rfl, rfl, h2, h3⟩
    · -- into nothing
      refine zi0 (F := F) (L := L) (w0 := w0) (D := D) (n := n) (r := r) (Q := Q) (ops := ops) rfl rfl (fun a' w' ha' hw' => ?_) a w ha hw
      obtain ⟨i, hi, hz, hik, hib⟩ := hE.h
      subst hik hib
      obtain ⟨a1', cx', e1, hcx', hcase'⟩ := hsv w' hw'
      cases e1
      rcases hcase' with h0 | ⟨b', off', c', e'', fz', e2, hk2, hp2⟩
      · exact absurd h0 hys
      cases e2
      have hcells2 := Pat.cells henc hp2
      have hrun := run_append_nil (P := P) w' t ty e i z hU.h hi hz ⟨b, off, none⟩ ys.length cx (ys.flatMap enc) hfl (fun j u hj => by rw [zh8]; simp [World.cell?, hk2, hcells2 j u hj]) hpos (by simp at hm; omega) (by simp at hm; omega)
      rw [zI5 (ha'.eval hx) (ha'.eval hy) hrun]
      have hge := grownCap_ge w' ys.length 0 e
      have hce : (ys.flatMap enc).toArray ++ Builtin.zeroCells z.cells (grownCap w' ys.length 0 e - ys.length) = (ys.flatMap enc ++ (Builtin.zeroCells z.cells (grownCap w' ys.length 0 e - ys.length)).toList).toArray := by
        apply Array.ext'; simp
      rw [hce]
      refine h _ _ (OW.row (b := w'.heap.size) (s := (Builtin.zeroCells z.cells (grownCap w' ys.length 0 e - ys.length)).toList) (cap := grownCap w' ys.length 0 e) ?_ (by simp at hm ⊢; omega)) _ _ (by simpa using ha'.put (Nat.le_of_ble_eq_true hd) _) ?_
      · simp only [List.nil_append, List.length_append, hfl, Array.length_toList, size_zeroCells, hzk]
        rw [← Nat.add_mul]; congr 1; omega
      · have hr' : RemL L [] L0 := hr
        have := (hw'.perm hr').drew.alloc (Ce (ys.flatMap enc ++ (Builtin.zeroCells z.cells (grownCap w' ys.length 0 e - ys.length)).toList) e)
        simpa using this
    · refine zi0 (F := F) (L := L) (w0 := w0) (D := D) (n := n) (r := r) (Q := Q) (ops := ops) rfl rfl (fun a' w' ha' hw' => ?_) a w ha hw
      obtain ⟨i, hi, hz, hik, hib⟩ := hE.h
      subst hik hib
      obtain ⟨a1', cx', e1, hcx', hcase'⟩ := hsv w' hw'
      cases e1
      rcases hcase' with h0 | ⟨b', off', c', e'', fz', e2, hk2, hp2⟩
      · exact absurd h0 hys
      cases e2
      have hcells2 := Pat.cells henc hp2
      have hnews : ∀ j u, (ys.flatMap enc)[j]? = some u → w'.cell? ((⟨b, off, none⟩ : Addr).add j) = some u := fun j u hj => by rw [zh8]; simp [World.cell?, hk2, hcells2 j u hj]
      have hwq : Rep w0 w' (⟨b0, Ce (xs.flatMap enc ++ s0) e, true⟩ :: L0) := hw'.perm hr
      have hb0 : w'.heap[b0]? = some (Ce (xs.flatMap enc ++ s0) e) := hwq.ok _ List.mem_cons_self
      by_cases hroom : xs.length + ys.length ≤ cap0
      · have hsz : (xs.flatMap enc ++ s0).toArray.size = cap0 * i.size := by simpa using h2
        have hmul : (xs.length + ys.length) * i.size ≤ cap0 * i.size := Nat.mul_le_mul_right _ hroom
        have hfit : xs.length * i.size + (ys.flatMap enc).length ≤ (xs.flatMap enc ++ s0).toArray.size := by rw [hsz, hfl]; rw [Nat.add_mul] at hmul; exact hmul
        have hone : ∀ u ∈ ys.flatMap enc, u.oneCell' = true := fun u hu => by
          obtain ⟨q, _, hq⟩ := List.mem_flatMap.1 hu
          exact (List.all_eq_true.1 (h1 q)) u hq
        have hrun := run_append_room (P := P) w' t ty e i hU.h hi b0 xs.length cap0 (xs.flatMap enc ++ s0).toArray hb0 ⟨b, off, none⟩ ys.length cx (ys.flatMap enc) hfl hnews hone hroom hfit
        rw [zI5 (ha'.eval hx) (ha'.eval hy) hrun]
        have hcont : (xs.flatMap enc ++ s0).toArray.toList.take (xs.length * i.size) ++ ys.flatMap enc ++ (xs.flatMap enc ++ s0).toArray.toList.drop (xs.length * i.size + (ys.flatMap enc).length) = (xs ++ ys).flatMap enc ++ s0.drop (ys.flatMap enc).length := by
          simp only []
          rw [← hflx, List.take_left', List.drop_append, List.drop_of_length_le (by omega)]
          · simp
          · rfl
        rw [hcont]
        have hlen : xs.length + ys.length = (xs ++ ys).length := by simp
        rw [hlen]
        refine h _ _ (OW.row (b := b0) (s := s0.drop (ys.flatMap enc).length) (cap := cap0) ?_ (by simp; omega)) _ _ (ha'.put (Nat.le_of_ble_eq_true hd) _) (hwq.turn .hd rfl rfl rfl (by simp) (setRow_heap w' b0 _ _ e _ hb0) (fun k hk => setRow_other w' b0 k _ hk))
        have hls : (xs.flatMap enc ++ s0).length = (xs.flatMap enc).length + s0.length := by simp
        rw [hls] at h2
        rw [Nat.add_mul] at hmul
        simp only [List.flatMap_append, List.length_append, List.length_drop]
        omega
      · have hrun := run_append_grow (P := P) w' t ty e i z hU.h hi hz ⟨b0, 0, none⟩ xs.length cap0 (xs.flatMap enc) hflx
          (fun j u hj => by
            rw [zh8]
            have hlt := (List.getElem?_eq_some_iff.1 hj).1
            simp [World.cell?, hb0, List.getElem?_append_left hlt, hj]) ⟨b, off, none⟩ ys.length cx (ys.flatMap enc) hfl hnews (by omega) (by omega) (growslice_fits (by omega) hm.1)
        rw [zI5 (ha'.eval hx) (ha'.eval hy) hrun]
        have hge := grownCap_ge w' (xs.length + ys.length) cap0 e
        have hce : (xs.flatMap enc).toArray ++ (ys.flatMap enc).toArray ++ Builtin.zeroCells z.cells (grownCap w' (xs.length + ys.length) cap0 e - (xs.length + ys.length)) = ((xs ++ ys).flatMap enc ++ (Builtin.zeroCells z.cells (grownCap w' (xs.length + ys.length) cap0 e - (xs.length + ys.length))).toList).toArray := by
          apply Array.ext'; simp
        rw [hce]
        have hdrop : Rep w0 w' L0 := hwq.sub (HSub.drop HSub.same)
        have hlen : xs.length + ys.length = (xs ++ ys).length := by simp
        refine h _ _ (OW.row (b := w'.heap.size) (s := (Builtin.zeroCells z.cells (grownCap w' (xs.length + ys.length) cap0 e - (xs.length + ys.length))).toList) (cap := grownCap w' (xs.length + ys.length) cap0 e) ?_ (by simp; omega)) _ _ (by rw [← hlen]; exact ha'.put (Nat.le_of_ble_eq_true hd) _) ?_
        · simp only [List.flatMap_append, List.length_append, hflx, hfl, Array.length_toList, size_zeroCells, hzk]
          rw [← Nat.add_mul, ← Nat.add_mul]; congr 1; omega
        · exact hdrop.drew.alloc _
theorem zc4 {α : Type} {enc : α → List Value} {t e : TypeId} {k bytes : Nat} {z : Value} {x y : Operand} {v vy : Value} {xs ys : List α} {N : List Ent} (hU : TU P t (.slice e)) (hE : TE P e k bytes z) (hS : TS P e k) (hzk : z.cells.size = k) (henc : ∀ x, (enc x).length = k) (h1 : ∀ x, (enc x).all (·.oneCell') = true)
    (hx : ev F x = some v) (hy : ev F y = some vy) (hd : Nat.ble (d + 1) n = true) (hv : OW e k enc v xs N) (hr : RemL L N L0) (hsv : ∀ w, Rep w0 w L → SV w k enc vy ys)
    (hm : (xs.length + ys.length) * bytes ≤ 140737488355328 ∧ xs.length + ys.length ≤ 140737488355328)
    (h : ∀ a cap N', OW e k enc (.slice a (xs ++ ys).length cap) (xs ++ ys) N' → St n D w0 ((d, .slice a (xs ++ ys).length cap) :: F) (N' ++ L0) (WL r P ops Q rest)) :
    St n D w0 F L (WL r P ops Q (⟨some d, .call ⟨.builtin .append, #[x, y], #[t, t]⟩, ty, pos, af, none⟩ :: rest)) :=
  yw9 hU hE hS hzk henc h1 hx hy hd hv hr hsv hm (fun v' N' hO => by
    obtain ⟨a, cap, rfl, _, _⟩ := hO.open
    exact h a cap N' hO)
end
end Go.Sx
namespace Go.Sx
open Go Go.RowKit
section
variable {H : Type} {enc : TypeId × Value → H} {P : Program} {w : World} {t : TypeId} {cs : List Value}
end
end Go.Sx
namespace Go.Sx
open Go Go.RowKit
section
variable {P : Program} {b : Frame} {a : Act} {k : List Item} {cs : List Frame} {w : World}
theorem zn9 {c : Code} : step P (lone (b.atR a (.code (.scope c) :: k)) cs w) = .next (lone (b.atR a (.code c :: .inScope c :: k)) cs w) :=
  step_lone_go (by simp [stepG, stepG.exec, Frame.atR])
theorem zU4 {c : Code} : step P (lone (b.atR a (.inScope c :: k)) cs w) = .next (lone (b.atR a k) cs w) :=
  step_lone_go (by simp [stepG, stepG.exec, Frame.atR])
end
section
variable {r : Option Nat} {P : Program} {n : Nat} {D : List Deferred} {w0 : World} {F : List (Nat × Value)} {L L0 : List Ent} {Q : Exit → Act → World → Prop} {ops : Array Oper}
variable {d : Tmp} {ty : TypeId} {pos : String} {af : Array Edge} {rest : List Oper}
theorem zo2 {c : Code} (h : St n D w0 F L (WC r P c (Exit.noGoto Q))) : St n D w0 F L (WC r P (.scope c) Q) := by
  intro a w ha hw b k cs hro hb hr
  obtain ⟨e, a₁, w₁, hq, harr⟩ := h a w ha hw b (.inScope c :: k) cs hro hb hr
  have h0 : (lone (b.atR a (.code (.scope c) :: k)) cs w).fenced P (FR r) := fenced_calm hb hr rfl
  cases e with
  | normal => exact ⟨.normal, a₁, w₁, hq, .head h0 zn9 (StepsIn.trans harr (.one (fenced_calm hb hr rfl) zU4))⟩
  | exit id =>
    have hx : exitTo id (.inScope c :: k) = exitTo id k := by simp [exitTo]
    exact ⟨.exit id, a₁, w₁, hq, fun k' hk => .head h0 zn9 (harr.1 k' (by rw [hx]; exact hk)),
      fun hr' hk => let ⟨k₁, h1, h2⟩ := harr.2 hr' (by rw [hx]; exact hk); ⟨k₁, h1, .head h0 zn9 h2⟩⟩
  | goto l => exact hq.elim
  | ret => exact ⟨_, a₁, w₁, hq, .of_steps (.one h0 zn9) harr⟩
  | panic ch => exact ⟨_, a₁, w₁, hq, .of_steps (.one h0 zn9) harr⟩
  | outgrown => exact ⟨_, a₁, w₁, hq, .of_steps (.one h0 zn9) harr⟩
theorem zk9 (h : St n D w0 F L (Q .ret)) : St n D w0 F L (Exit.noGoto Q .ret) := h
def WR (r : Option Nat) (P : Program) (c : Code) (Q : Exit → Act → World → Prop) : Act → World → Prop := fun a w => ∀ (b : Frame) (k : List Item) (cs : List Frame), b.roundOf = (FR r).round → (FR r).fn b.fn → (FR r).room (cs.length + 1 + 0) → ∃ e a' w', Q e a' w' ∧ ArrivesIn (Machine.fenced P (FR r)) P (lone (b.atR a (.code c :: .inLoop c :: k)) cs w) b k cs e a' w'
theorem yA6 {c : Code} (h : St n D w0 F L (WR r P c Q)) : St n D w0 F L (WC r P (.loop c) Q) := by
  intro a w ha hw b k cs hro hb hr
  obtain ⟨e, a', w', hq, harr⟩ := h a w ha hw b k cs hro hb hr
  exact ⟨e, a', w', hq, .of_steps (.one (fenced_calm hb hr rfl) stepR_loop) harr⟩
theorem z9 {c : Code} (h : St n D w0 F L (WC r P c (Exit.then (WR r P c Q) Q))) : St n D w0 F L (WR r P c Q) := by
  intro a w ha hw b k cs hro hb hr
  obtain ⟨e, a₁, w₁, hq, harr⟩ := h a w ha hw b (.inLoop c :: k) cs hro hb hr
  cases e with
  | normal =>
    obtain ⟨e₂, a₂, w₂, hq₂, harr₂⟩ := hq b k cs hro hb hr
    exact ⟨e₂, a₂, w₂, hq₂, .of_steps (StepsIn.trans harr (.one (fenced_calm hb hr rfl) stepR_inLoop)) harr₂⟩
  | exit id => exact ⟨_, a₁, w₁, hq, .pass (x := .inLoop c) rfl (fun _ _ => .inl (by simp)) harr⟩
  | goto l => exact ⟨_, a₁, w₁, hq, .pass (x := .inLoop c) rfl (fun _ _ => .inl (by simp)) harr⟩
  | ret => exact ⟨_, a₁, w₁, hq, .pass (x := .inLoop c) rfl (fun _ _ => .inl (by simp)) harr⟩
  | panic ch => exact ⟨_, a₁, w₁, hq, .pass (x := .inLoop c) rfl (fun _ _ => .inl (by simp)) harr⟩
  | outgrown => exact ⟨_, a₁, w₁, hq, .pass (x := .inLoop c) rfl (fun _ _ => .inl (by simp)) harr⟩
theorem zo6 {f : FuncId} {fn : Func} [TC P f fn] {x : Operand} {caps : Array Value} {xs : List Operand} {vs : List Value} {ats : Array TypeId} {G : List Ent} {Φ : Value → List Ent → Prop}
    (hx : ev F x = some (.func (.func f) #[] caps)) (hd : Nat.ble (d + 1) n = true) (hxs : Evs F xs vs) (hr : RemL L G L0)
    (hc : ∀ w, Rep w0 w (G ++ L0) → Calls P f (vs.toArray ++ caps) w fun e w' => ∃ v G', e = .returned v ∧ Φ v G' ∧ Rep w0 w' (G' ++ L0))
    (h : ∀ v G', Φ v G' → St n D w0 ((d, v) :: F) (G' ++ L0) (WL r P ops Q rest)) :
    St n D w0 F L (WL r P ops Q (⟨some d, .call ⟨.value x, xs.toArray, ats⟩, ty, pos, af, none⟩ :: rest)) :=
  ya0 (x := x) (caps := caps) (Φ := fun w v w' => ∃ G', Φ v G' ∧ Rep w0 w' (G' ++ L0)) hx hd hxs (fun w hw => by
    refine (hc w (hw.perm hr)).mono ?_
    rintro e w' ⟨v, G', rfl, hΦ, hw'⟩
    exact ⟨v, rfl, G', hΦ, hw'⟩) (fun w v hw a w' hΦ ha => by
      obtain ⟨G', h1, h2⟩ := hΦ
      exact h v G' h1 a w' ha h2)
end
theorem yu9 {P : Program} {n : Nat} {F : List (Nat × Value)} {L : List Ent} {f : FuncId} {fn : Func} {c : Code} {l : List Value} {w0 w : World} {R : Ending → World → Prop} (hf : P.funcs[f]? = some fn) (hb : fn.body = some c) (hn : fn.ntmps = n) (hl : Nat.ble l.length n = true)
    (hF : FArgs 0 l F) (hw : Rep w0 w L) (h : St n [] w0 F L (WC none P c (bodyPost P fn R))) : Calls P f l.toArray w R := by
  refine zB0 (callsIn_of_wp hf hb trivial (h _ _ ⟨?_, rfl, fun t v ht => ?_⟩ hw))
  · have := Nat.le_of_ble_eq_true hl
    simp [hn]; omega
  · obtain ⟨_, h2⟩ := hF.lk t v ht
    simp only [Nat.sub_zero] at h2
    have hlt := (List.getElem?_eq_some_iff.1 h2).1
    rw [Array.getElem?_append_left (by simpa using hlt)]
    simpa using h2
theorem zj3 {P : Program} {n : Nat} {L : List Ent} {f : FuncId} {fn : Func} {c : Code} {v0 v1 : Value} {w0 w : World} {R : Ending → World → Prop} (hf : P.funcs[f]? = some fn) (hb : fn.body = some c) (hn : fn.ntmps = n) (hl : Nat.ble 2 n = true) (hw : Rep w0 w L)
    (h : St n [] w0 [(0, v0), (1, v1)] L (WC none P c (bodyPost P fn R))) : Calls P f #[v0, v1] w R := yu9 (l := [v0, v1]) hf hb hn hl (.cons (.cons FArgs.nil)) hw h
end Go.Sx
namespace Go.Sx
open Go Go.RowKit
abbrev SD := Option Addr × Nat × Nat
@[reducible] def sdV (s : SD) : Value := .slice s.1 s.2.1 s.2.2
def encS (s : SD) : List Value := [sdV s]
theorem zl1 : ∀ x, (encS x).length = 1 := fun _ => rfl
theorem yu6 : ∀ x, (encS x).all (·.oneCell') = true := fun _ => rfl
section
variable {α : Type} {E : TypeId} {k : Nat} {enc : α → List Value}
inductive LL (E : TypeId) (k : Nat) (enc : α → List Value) : List SD → List (List α) → List Ent → Prop
  | nil : LL E k enc [] [] []
  | cons {s : SD} {xs : List α} {N : List Ent} {ss : List SD} {xss : List (List α)} {M : List Ent} : OW E k enc (sdV s) xs N → LL E k enc ss xss M → LL E k enc (s :: ss) (xs :: xss) (N ++ M)
theorem LL.len {ss : List SD} {xss : List (List α)} {M : List Ent} (h : LL E k enc ss xss M) : ss.length = xss.length := by
  induction h with
  | nil => rfl
  | cons _ _ ih => simp [ih]
theorem LL.own {ss : List SD} {xss : List (List α)} {M : List Ent} (h : LL E k enc ss xss M) : ∀ x ∈ M, x.own = true := by
  induction h with
  | nil => simp
  | cons h1 _ ih =>
    intro x hx
    rcases List.mem_append.1 hx with hx | hx
    · exact h1.own x hx
    · exact ih x hx
theorem LL.snoc {ss : List SD} {xss : List (List α)} {M : List Ent} (h : LL E k enc ss xss M) {s : SD} {xs : List α} {N : List Ent} (hs : OW E k enc (sdV s) xs N) : LL E k enc (ss ++ [s]) (xss ++ [xs]) (M ++ N) := by
  induction h with
  | nil => simpa using LL.cons hs LL.nil
  | cons h1 _ ih => simpa [List.append_assoc] using LL.cons h1 ih
theorem LL.at {ss : List SD} {xss : List (List α)} {M : List Ent} (h : LL E k enc ss xss M) {i : Nat} {xs : List α} (hi : xss[i]? = some xs) :
    ∃ s N M1 M2, ss[i]? = some s ∧ OW E k enc (sdV s) xs N ∧ M = M1 ++ (N ++ M2) ∧ (∀ x ∈ M1, x.own = true) ∧ (∀ x ∈ M2, x.own = true) ∧
      ∀ s' xs' N', OW E k enc (sdV s') xs' N' → LL E k enc (ss.set i s') (xss.set i xs') (M1 ++ (N' ++ M2)) := by
  induction h generalizing i with
  | nil => simp at hi
  | @cons s xs0 N ss xss M h1 h2 ih =>
    cases i with
    | zero =>
      simp at hi; subst hi
      exact ⟨s, N, [], M, rfl, h1, rfl, by simp, h2.own, fun s' xs' N' h' => (LL.cons h' h2 : LL E k enc (s' :: ss) (xs' :: xss) (N' ++ M))⟩
    | succ i =>
      obtain ⟨s1, N1, M1, M2, g1, g2, g3, g4, g5, g6⟩ := ih (by simpa using hi)
      refine ⟨s1, N1, N ++ M1, M2, by simpa using g1, g2, by rw [g3, List.append_assoc], fun x hx => ?_, g5, fun s' xs' N' h' => ?_⟩
      · rcases List.mem_append.1 hx with hx | hx
        · exact h1.own x hx
        · exact g4 x hx
      · simpa [List.append_assoc] using LL.cons h1 (g6 s' xs' N' h')
def SL (w : World) (k : Nat) (enc : α → List Value) (ss : List SD) (xss : List (List α)) : Prop := ss.length = xss.length ∧ ∀ (i : Nat) (s : SD) (xs : List α), ss[i]? = some s → xss[i]? = some xs → SV w k enc (sdV s) xs
theorem LL.sl (henc : ∀ x, (enc x).length = k) {ss : List SD} {xss : List (List α)} {M L L0 : List Ent} {w0 w : World} (h : LL E k enc ss xss M) (hr : RemL L M L0) (hw : Rep w0 w L) : SL w k enc ss xss := by
  refine ⟨h.len, fun i s xs hs hx => ?_⟩
  obtain ⟨s1, N, M1, M2, g1, g2, rfl, _⟩ := h.at hx
  rw [hs] at g1; cases g1
  refine g2.sv henc (L := L) (L0 := M1 ++ (M2 ++ L0)) ?_ hw
  refine List.Perm.trans hr ?_
  simp only [List.append_assoc]
  exact List.perm_append_comm_assoc _ _ _
end
theorem SL.keep {α : Type} {k : Nat} {enc : α → List Value} {ss : List SD} {xss : List (List α)} {w0 w : World} {L : List Ent} (h : SL w0 k enc ss xss) (hw : Rep w0 w L) (ho : AO L) : SL w k enc ss xss :=
  ⟨h.1, fun i s xs hs hx => (h.2 i s xs hs hx).keep hw ho⟩
end Go.Sx
