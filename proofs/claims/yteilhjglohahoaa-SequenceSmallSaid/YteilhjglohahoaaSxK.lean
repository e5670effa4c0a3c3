/- The rules of operations that come at once in a region that draws its order: written by a program (mkb.py) out of the rules of Sx3, Sx4, Sx5, Sx7, SxB, SxT. -/
import Derived.Test.YteilhjglohahoaaSxJ
import Derived.Test.YteilhjglohahoaaSxT
namespace Go.Sx
open Go Go.RowKit

section
variable {P : Program}
variable {n : Nat} {D : List Deferred} {w0 : World} {F : List (Nat × Value)} {L : List Ent} {Q : Exit → Act → World → Prop} {L0 : List Ent} {lq : List Oper} {fq mq : Nat} {ops : Array Oper}
variable {d : Tmp} {ty : TypeId} {pos : String} {af : Array Edge} {rest : List Oper}

theorem b_move {x : Operand} {v : Value} (hx : ev F x = some v) (hd : Nat.ble (d + 1) n = true) (h : St n D w0 ((d, v) :: F) L (WB P lq w0 L0 Q fq mq)) :
    St n D w0 F L (WF P lq w0 L0 Q fq mq (⟨some d, .move x, ty, pos, af, none⟩)) :=
  b_val rfl hd (fun a w ha _ => by simp [execOp, ha.eval hx]) h
theorem b_assign {x : Operand} {v : Value} (hx : ev F x = some v) (hd : Nat.ble (d + 1) n = true) (h : St n D w0 ((d, v) :: F) L (WB P lq w0 L0 Q fq mq)) :
    St n D w0 F L (WF P lq w0 L0 Q fq mq (⟨some d, .assign x, ty, pos, af, none⟩)) :=
  b_val rfl hd (fun a w ha _ => by simp [execOp, ha.eval hx]) h
theorem b_pick_t {c x y : Operand} {b : Bool} {v : Value} (hc : ev F c = some (.bool b)) (hb : b = true) (hx : ev F x = some v) (hd : Nat.ble (d + 1) n = true) (h : St n D w0 ((d, v) :: F) L (WB P lq w0 L0 Q fq mq)) :
    St n D w0 F L (WF P lq w0 L0 Q fq mq (⟨some d, .pick c x y, ty, pos, af, none⟩)) :=
  b_val rfl hd (fun a w ha _ => by subst hb; simp [execOp, ha.eval hx, ha.eval hc, asBool]) h
theorem b_pick_f {c x y : Operand} {b : Bool} {v : Value} (hc : ev F c = some (.bool b)) (hb : b = false) (hy : ev F y = some v) (hd : Nat.ble (d + 1) n = true) (h : St n D w0 ((d, v) :: F) L (WB P lq w0 L0 Q fq mq)) :
    St n D w0 F L (WF P lq w0 L0 Q fq mq (⟨some d, .pick c x y, ty, pos, af, none⟩)) :=
  b_val rfl hd (fun a w ha _ => by subst hb; simp [execOp, ha.eval hy, ha.eval hc, asBool]) h
theorem b_not {x : Operand} {b : Bool} {t : TypeId} (hx : ev F x = some (.bool b)) (hd : Nat.ble (d + 1) n = true) (h : St n D w0 ((d, .bool !b) :: F) L (WB P lq w0 L0 Q fq mq)) :
    St n D w0 F L (WF P lq w0 L0 Q fq mq (⟨some d, .unOp .not t x, ty, pos, af, none⟩)) :=
  b_val rfl hd (fun a w ha _ => by simp [execOp, ha.eval hx, Op.unary]) h
theorem b_not_d {x : Operand} {p : Prop} {_ : Decidable p} {t : TypeId} (hx : ev F x = some (.bool (decide p))) (hd : Nat.ble (d + 1) n = true) (h : St n D w0 ((d, .bool (decide (¬ p))) :: F) L (WB P lq w0 L0 Q fq mq)) :
    St n D w0 F L (WF P lq w0 L0 Q fq mq (⟨some d, .unOp .not t x, ty, pos, af, none⟩)) :=
  b_not hx hd (by rw [← decide_not]; exact h)
theorem b_not_B {x : Operand} {p : Prop} {t : TypeId} (hx : ev F x = some (.bool (B p))) (hd : Nat.ble (d + 1) n = true) (h : St n D w0 ((d, .bool (B (¬ p))) :: F) L (WB P lq w0 L0 Q fq mq)) :
    St n D w0 F L (WF P lq w0 L0 Q fq mq (⟨some d, .unOp .not t x, ty, pos, af, none⟩)) :=
  b_not hx hd (by
    have e : (!B p) = B (¬ p) := by
      by_cases hp : p
      · rw [B_true hp, B_false (fun h => h hp)]; rfl
      · rw [B_false hp, B_true hp]; rfl
    rw [e]; exact h)
theorem b_neg {x : Operand} {k : IntKind} {m : Int} {t : TypeId} (hx : ev F x = some (.int k m)) (hd : Nat.ble (d + 1) n = true) (h : St n D w0 ((d, .int k (k.wrap (0 - m))) :: F) L (WB P lq w0 L0 Q fq mq)) :
    St n D w0 F L (WF P lq w0 L0 Q fq mq (⟨some d, .unOp .neg t x, ty, pos, af, none⟩)) :=
  b_val rfl hd (fun a w ha _ => by simp [execOp, ha.eval hx, Op.unary, Op.intArith]) h
theorem b_extract {x : Operand} {vs : Array Value} {i : Nat} {v : Value} (hx : ev F x = some (.tuple vs)) (hi : vs[i]? = some v) (hd : Nat.ble (d + 1) n = true) (h : St n D w0 ((d, v) :: F) L (WB P lq w0 L0 Q fq mq)) :
    St n D w0 F L (WF P lq w0 L0 Q fq mq (⟨some d, .extract x i, ty, pos, af, none⟩)) :=
  b_val rfl hd (fun a w ha _ => by simp [execOp, ha.eval hx, Instr.extract, hi]) h

section
variable {x y : Operand} {k : IntKind} {m l : Int} {t u : TypeId} (hx : ev F x = some (.int k m)) (hy : ev F y = some (.int k l)) (hd : Nat.ble (d + 1) n = true)
include hx hy hd
theorem b_lss (h : St n D w0 ((d, .bool (decide (m < l))) :: F) L (WB P lq w0 L0 Q fq mq)) : St n D w0 F L (WF P lq w0 L0 Q fq mq (⟨some d, .binOp .lss t x y u, ty, pos, af, none⟩)) :=
  b_val rfl hd (fun a w ha _ => by simp [execOp, ha.eval hx, ha.eval hy, eqGuard, binOp, Op.intCmp]) h
theorem b_leq (h : St n D w0 ((d, .bool (decide (m ≤ l))) :: F) L (WB P lq w0 L0 Q fq mq)) : St n D w0 F L (WF P lq w0 L0 Q fq mq (⟨some d, .binOp .leq t x y u, ty, pos, af, none⟩)) :=
  b_val rfl hd (fun a w ha _ => by simp [execOp, ha.eval hx, ha.eval hy, eqGuard, binOp, Op.intCmp]) h
theorem b_gtr (h : St n D w0 ((d, .bool (decide (m > l))) :: F) L (WB P lq w0 L0 Q fq mq)) : St n D w0 F L (WF P lq w0 L0 Q fq mq (⟨some d, .binOp .gtr t x y u, ty, pos, af, none⟩)) :=
  b_val rfl hd (fun a w ha _ => by simp [execOp, ha.eval hx, ha.eval hy, eqGuard, binOp, Op.intCmp]) h
theorem b_geq (h : St n D w0 ((d, .bool (decide (m ≥ l))) :: F) L (WB P lq w0 L0 Q fq mq)) : St n D w0 F L (WF P lq w0 L0 Q fq mq (⟨some d, .binOp .geq t x y u, ty, pos, af, none⟩)) :=
  b_val rfl hd (fun a w ha _ => by simp [execOp, ha.eval hx, ha.eval hy, eqGuard, binOp, Op.intCmp]) h
theorem b_eql (h : St n D w0 ((d, .bool (decide (m = l))) :: F) L (WB P lq w0 L0 Q fq mq)) : St n D w0 F L (WF P lq w0 L0 Q fq mq (⟨some d, .binOp .eql t x y u, ty, pos, af, none⟩)) :=
  b_val rfl hd (fun a w ha _ => by simp [execOp, ha.eval hx, ha.eval hy, eqGuard, binOp, Op.intCmp]; rfl) h
theorem b_neq (h : St n D w0 ((d, .bool (decide (m ≠ l))) :: F) L (WB P lq w0 L0 Q fq mq)) : St n D w0 F L (WF P lq w0 L0 Q fq mq (⟨some d, .binOp .neq t x y u, ty, pos, af, none⟩)) :=
  b_val rfl hd (fun a w ha _ => by simp [execOp, ha.eval hx, ha.eval hy, eqGuard, binOp, Op.intCmp, bne, decide_not]; rfl) h

theorem b_add_w (h : St n D w0 ((d, .int k (k.wrap (m + l))) :: F) L (WB P lq w0 L0 Q fq mq)) : St n D w0 F L (WF P lq w0 L0 Q fq mq (⟨some d, .binOp .add t x y u, ty, pos, af, none⟩)) :=
  b_val rfl hd (fun a w ha _ => by simp [execOp, ha.eval hx, ha.eval hy, eqGuard, binOp, Op.intArith]) h
theorem b_sub_w (h : St n D w0 ((d, .int k (k.wrap (m - l))) :: F) L (WB P lq w0 L0 Q fq mq)) : St n D w0 F L (WF P lq w0 L0 Q fq mq (⟨some d, .binOp .sub t x y u, ty, pos, af, none⟩)) :=
  b_val rfl hd (fun a w ha _ => by simp [execOp, ha.eval hx, ha.eval hy, eqGuard, binOp, Op.intArith]) h
theorem b_mul_w (h : St n D w0 ((d, .int k (k.wrap (m * l))) :: F) L (WB P lq w0 L0 Q fq mq)) : St n D w0 F L (WF P lq w0 L0 Q fq mq (⟨some d, .binOp .mul t x y u, ty, pos, af, none⟩)) :=
  b_val rfl hd (fun a w ha _ => by simp [execOp, ha.eval hx, ha.eval hy, eqGuard, binOp, Op.intArith]) h
theorem b_quo_w (hl : l ≠ 0) (h : St n D w0 ((d, .int k (k.wrap (m.tdiv l))) :: F) L (WB P lq w0 L0 Q fq mq)) : St n D w0 F L (WF P lq w0 L0 Q fq mq (⟨some d, .binOp .quo t x y u, ty, pos, af, none⟩)) :=
  b_val rfl hd (fun a w ha _ => by simp [execOp, ha.eval hx, ha.eval hy, eqGuard, binOp, Op.intDiv, hl]) h
theorem b_rem_w (hl : l ≠ 0) (h : St n D w0 ((d, .int k (m.tmod l)) :: F) L (WB P lq w0 L0 Q fq mq)) : St n D w0 F L (WF P lq w0 L0 Q fq mq (⟨some d, .binOp .rem t x y u, ty, pos, af, none⟩)) :=
  b_val rfl hd (fun a w ha _ => by simp [execOp, ha.eval hx, ha.eval hy, eqGuard, binOp, Op.intDiv, hl]) h
theorem b_and_w (h : St n D w0 ((d, .int k (k.wrap ((BitVec.ofInt k.bits m &&& BitVec.ofInt k.bits l).toNat))) :: F) L (WB P lq w0 L0 Q fq mq)) : St n D w0 F L (WF P lq w0 L0 Q fq mq (⟨some d, .binOp .and t x y u, ty, pos, af, none⟩)) :=
  b_val rfl hd (fun a w ha _ => by simp [execOp, ha.eval hx, ha.eval hy, eqGuard, binOp, Op.intBits]) h
end

section
variable {x y : Operand} {m l : Int} {t u : TypeId} (hx : ev F x = some (.int .i64 m)) (hy : ev F y = some (.int .i64 l)) (hd : Nat.ble (d + 1) n = true)
include hx hy hd
theorem b_add (hr : -9223372036854775808 ≤ m + l ∧ m + l ≤ 9223372036854775807) (h : St n D w0 ((d, .int .i64 (m + l)) :: F) L (WB P lq w0 L0 Q fq mq)) : St n D w0 F L (WF P lq w0 L0 Q fq mq (⟨some d, .binOp .add t x y u, ty, pos, af, none⟩)) :=
  b_add_w hx hy hd (by rw [wrap_in hr.1 hr.2]; exact h)
theorem b_sub (hr : -9223372036854775808 ≤ m - l ∧ m - l ≤ 9223372036854775807) (h : St n D w0 ((d, .int .i64 (m - l)) :: F) L (WB P lq w0 L0 Q fq mq)) : St n D w0 F L (WF P lq w0 L0 Q fq mq (⟨some d, .binOp .sub t x y u, ty, pos, af, none⟩)) :=
  b_sub_w hx hy hd (by rw [wrap_in hr.1 hr.2]; exact h)
theorem b_mul (hr : -9223372036854775808 ≤ m * l ∧ m * l ≤ 9223372036854775807) (h : St n D w0 ((d, .int .i64 (m * l)) :: F) L (WB P lq w0 L0 Q fq mq)) : St n D w0 F L (WF P lq w0 L0 Q fq mq (⟨some d, .binOp .mul t x y u, ty, pos, af, none⟩)) :=
  b_mul_w hx hy hd (by rw [wrap_in hr.1 hr.2]; exact h)
theorem b_quo (hr : 0 ≤ m ∧ 0 < l ∧ m ≤ 9223372036854775807) (h : St n D w0 ((d, .int .i64 (m / l)) :: F) L (WB P lq w0 L0 Q fq mq)) : St n D w0 F L (WF P lq w0 L0 Q fq mq (⟨some d, .binOp .quo t x y u, ty, pos, af, none⟩)) :=
  b_quo_w hx hy hd (by omega) (by
    have h1 : m.tdiv l = m / l := Int.tdiv_eq_ediv_of_nonneg hr.1
    have h2 : 0 ≤ m / l := Int.ediv_nonneg hr.1 (by omega)
    have h3 : m / l ≤ m := Int.ediv_le_self l hr.1
    rw [h1, wrap_in (by omega) (by omega)]; exact h)
theorem b_rem (hr : 0 ≤ m ∧ 0 < l) (h : St n D w0 ((d, .int .i64 (m % l)) :: F) L (WB P lq w0 L0 Q fq mq)) : St n D w0 F L (WF P lq w0 L0 Q fq mq (⟨some d, .binOp .rem t x y u, ty, pos, af, none⟩)) :=
  b_rem_w hx hy hd (by omega) (by rw [Int.tmod_eq_emod_of_nonneg hr.1]; exact h)
end
theorem b_shr {x y : Operand} {k k' : IntKind} {m l : Int} {t u : TypeId} (hx : ev F x = some (.int k m)) (hy : ev F y = some (.int k' l)) (hd : Nat.ble (d + 1) n = true) (hl : 0 ≤ l)
    (h : St n D w0 ((d, .int k (m.fdiv (2 ^ (min l.toNat k.bits)))) :: F) L (WB P lq w0 L0 Q fq mq)) : St n D w0 F L (WF P lq w0 L0 Q fq mq (⟨some d, .binOp .shr t x y u, ty, pos, af, none⟩)) :=
  b_val rfl hd (fun a w ha _ => by
    have hl' : ¬ l < 0 := by omega
    simp [execOp, ha.eval hx, ha.eval hy, eqGuard, binOp, Op.shift, hl']) h
theorem b_and1 {x y : Operand} {m : Int} {t u : TypeId} (hx : ev F x = some (.int .u8 m)) (hy : ev F y = some (.int .u8 1)) (hd : Nat.ble (d + 1) n = true) (hm : 0 ≤ m ∧ m ≤ 255)
    (h : St n D w0 ((d, .int .u8 (m % 2)) :: F) L (WB P lq w0 L0 Q fq mq)) : St n D w0 F L (WF P lq w0 L0 Q fq mq (⟨some d, .binOp .and t x y u, ty, pos, af, none⟩)) :=
  b_and_w hx hy hd (by rw [and1_u8 m hm]; exact h)
theorem b_shr_u8 {x y : Operand} {m l : Int} {t u : TypeId} (hx : ev F x = some (.int .u8 m)) (hy : ev F y = some (.int .i64 l)) (hd : Nat.ble (d + 1) n = true) (hm : 0 ≤ m ∧ 0 ≤ l ∧ l < 8)
    (h : St n D w0 ((d, .int .u8 (m / 2 ^ l.toNat)) :: F) L (WB P lq w0 L0 Q fq mq)) : St n D w0 F L (WF P lq w0 L0 Q fq mq (⟨some d, .binOp .shr t x y u, ty, pos, af, none⟩)) :=
  b_shr hx hy hd hm.2.1 (by
    have e : min l.toNat IntKind.u8.bits = l.toNat := by show min l.toNat 8 = l.toNat; omega
    have e2 : m.fdiv (2 ^ l.toNat) = m / 2 ^ l.toNat := Int.fdiv_eq_ediv_of_nonneg _ (Int.le_of_lt (Int.pow_pos (by decide)))
    rw [e, e2]; exact h)
theorem b_conv {x : Operand} {k k' : IntKind} {m : Int} {s t : TypeId} {ds : TypeDesc} [TU P s ds] [TU P t (.int k')] (hx : ev F x = some (.int k m)) (hd : Nat.ble (d + 1) n = true)
    (h : St n D w0 ((d, .int k' (k'.wrap m)) :: F) L (WB P lq w0 L0 Q fq mq)) : St n D w0 F L (WF P lq w0 L0 Q fq mq (⟨some d, .convert s t x, ty, pos, af, none⟩)) :=
  b_val rfl hd (fun a w ha _ => by
    simp [execOp, ha.eval hx, convert, run_under (TU.h (P := P) (t := t)), run_under (TU.h (P := P) (t := s)), Conv.intToInt]) h
theorem b_eql_b {x y : Operand} {b c : Bool} {t u : TypeId} [TU P t .bool] (hx : ev F x = some (.bool b)) (hy : ev F y = some (.bool c)) (hd : Nat.ble (d + 1) n = true)
    (h : St n D w0 ((d, .bool (b == c)) :: F) L (WB P lq w0 L0 Q fq mq)) : St n D w0 F L (WF P lq w0 L0 Q fq mq (⟨some d, .binOp .eql t x y u, ty, pos, af, none⟩)) :=
  b_val rfl hd (fun a w ha _ => by
    have h1 := run_equal_bool (P := P) (b := b) (c := c) (TU.h (P := P) (t := t)) w
    simp only [execOp, ha.eval hx, ha.eval hy, eqGuard, binOp, Sem.run_bind]
    show ((Sem.run P (Op.equal t (Value.bool b) (Value.bool c)) w).andThen fun a w' => Sem.run P (pure (Value.bool a)) w').andThen _ = _
    rw [h1]; rfl) h
theorem b_neq_b {x y : Operand} {b c : Bool} {t u : TypeId} [TU P t .bool] (hx : ev F x = some (.bool b)) (hy : ev F y = some (.bool c)) (hd : Nat.ble (d + 1) n = true)
    (h : St n D w0 ((d, .bool (b != c)) :: F) L (WB P lq w0 L0 Q fq mq)) : St n D w0 F L (WF P lq w0 L0 Q fq mq (⟨some d, .binOp .neq t x y u, ty, pos, af, none⟩)) :=
  b_val rfl hd (fun a w ha _ => by
    have h1 := run_equal_bool (P := P) (b := b) (c := c) (TU.h (P := P) (t := t)) w
    simp only [execOp, ha.eval hx, ha.eval hy, eqGuard, binOp, Sem.run_bind]
    show ((Sem.run P (Op.equal t (Value.bool b) (Value.bool c)) w).andThen fun a w' => Sem.run P (pure (Value.bool !a)) w').andThen _ = _
    rw [h1]; rfl) h

end
section
variable {P : Program} {n : Nat} {D : List Deferred} {w0 : World} {F : List (Nat × Value)} {L : List Ent} {Q : Exit → Act → World → Prop} {L0 : List Ent} {lq : List Oper} {fq mq : Nat} {ops : Array Oper}
variable {d : Tmp} {ty : TypeId} {pos : String} {af : Array Edge} {rest : List Oper}

theorem b_faddr0 {s : TypeId} {x : Operand} {i o b : Nat} [TF P s i o] (hx : ev F x = some (.pointer (some ⟨b, 0, none⟩))) (hd : Nat.ble (d + 1) n = true)
    (h : St n D w0 ((d, .pointer (some ⟨b, o, none⟩)) :: F) L (WB P lq w0 L0 Q fq mq)) : St n D w0 F L (WF P lq w0 L0 Q fq mq (⟨some d, .fieldAddr s x i, ty, pos, af, none⟩)) :=
  b_val rfl hd (fun a w ha _ => by simp [execOp, ha.eval hx, TF.h (P := P) (s := s) (i := i)]) h
theorem b_faddr {s : TypeId} {x : Operand} {i o b off : Nat} [TF P s i o] (hx : ev F x = some (.pointer (some ⟨b, off, none⟩))) (hd : Nat.ble (d + 1) n = true)
    (h : St n D w0 ((d, .pointer (some ⟨b, off + o, none⟩)) :: F) L (WB P lq w0 L0 Q fq mq)) : St n D w0 F L (WF P lq w0 L0 Q fq mq (⟨some d, .fieldAddr s x i, ty, pos, af, none⟩)) :=
  b_val rfl hd (fun a w ha _ => by simp [execOp, ha.eval hx, TF.h (P := P) (s := s) (i := i)]) h
theorem b_nilCheck {x : Operand} {p : Addr} (hx : ev F x = some (.pointer (some p))) (hd : Nat.ble (d + 1) n = true)
    (h : St n D w0 ((d, .pointer (some p)) :: F) L (WB P lq w0 L0 Q fq mq)) : St n D w0 F L (WF P lq w0 L0 Q fq mq (⟨some d, .nilCheck x, ty, pos, af, none⟩)) :=
  b_val rfl hd (fun a w ha _ => by simp [execOp, ha.eval hx]) h
theorem b_nilCheckF {x : Operand} {f : FuncId} {c1 c2 : Array Value} (hx : ev F x = some (.func (.func f) c1 c2)) (hd : Nat.ble (d + 1) n = true)
    (h : St n D w0 ((d, .func (.func f) c1 c2) :: F) L (WB P lq w0 L0 Q fq mq)) : St n D w0 F L (WF P lq w0 L0 Q fq mq (⟨some d, .nilCheck x, ty, pos, af, none⟩)) :=
  b_val rfl hd (fun a w ha _ => by simp [execOp, ha.eval hx]) h
theorem b_iaddr {t e : TypeId} {k : Nat} {x y : Operand} {b off len cap : Nat} {kk : IntKind} {i : Int} [TU P t (.slice e)] [TS P e k] (hx : ev F x = some (.slice (some ⟨b, off, none⟩) len cap)) (hy : ev F y = some (.int kk i)) (hd : Nat.ble (d + 1) n = true)
    (hi : 0 ≤ i ∧ i < len) (h : St n D w0 ((d, .pointer (some ⟨b, off + i.toNat * k, none⟩)) :: F) L (WB P lq w0 L0 Q fq mq)) : St n D w0 F L (WF P lq w0 L0 Q fq mq (⟨some d, .indexAddr t x y, ty, pos, af, none⟩)) :=
  b_val rfl hd (fun a w ha _ => by
    simp [execOp, ha.eval hx, ha.eval hy, Instr.indexAt, asIntOf, run_under (TU.h (P := P) (t := t)), hi, TS.h (P := P) (t := e), add_none]) h
theorem b_iaddrA {t e : TypeId} {k len : Nat} {x y : Operand} {b off : Nat} {kk : IntKind} {i : Int} [TU P t (.array len e)] [TS P e k] (hx : ev F x = some (.pointer (some ⟨b, off, none⟩))) (hy : ev F y = some (.int kk i)) (hd : Nat.ble (d + 1) n = true)
    (hi : 0 ≤ i ∧ i < len) (h : St n D w0 ((d, .pointer (some ⟨b, off + i.toNat * k, none⟩)) :: F) L (WB P lq w0 L0 Q fq mq)) : St n D w0 F L (WF P lq w0 L0 Q fq mq (⟨some d, .indexAddr t x y, ty, pos, af, none⟩)) :=
  b_val rfl hd (fun a w ha _ => by
    simp [execOp, ha.eval hx, ha.eval hy, Instr.indexAt, asIntOf, run_under (TU.h (P := P) (t := t)), hi, TS.h (P := P) (t := e), add_none, Instr.sureAddr]) h

theorem b_index_agg {t e : TypeId} {k len : Nat} {x y : Operand} {cs : Array Value} {kk : IntKind} {i : Int} {v : Array Value} [TU P t (.array len e)] [TA P e true] [TS P e k] (hx : ev F x = some (.agg cs)) (hy : ev F y = some (.int kk i))
    (hd : Nat.ble (d + 1) n = true) (hi : 0 ≤ i ∧ i < len) (hv : cs.extract (i.toNat * k) (i.toNat * k + k) = v)
    (h : St n D w0 ((d, .agg v) :: F) L (WB P lq w0 L0 Q fq mq)) : St n D w0 F L (WF P lq w0 L0 Q fq mq (⟨some d, .index t x y, ty, pos, af, none⟩)) :=
  b_val rfl hd (fun a w ha _ => by
    subst hv
    simp [execOp, ha.eval hx, ha.eval hy, Instr.index, asIntOf, run_under (TU.h (P := P) (t := t)), hi, TS.h (P := P) (t := e), part, TA.h (P := P) (t := e)]) h
theorem b_index_one {t e : TypeId} {len : Nat} {x y : Operand} {cs : Array Value} {kk : IntKind} {i : Int} {v : Value} [TU P t (.array len e)] [TA P e false] [TS P e 1] (hx : ev F x = some (.agg cs)) (hy : ev F y = some (.int kk i))
    (hd : Nat.ble (d + 1) n = true) (hi : 0 ≤ i ∧ i < len) (hv : cs[i.toNat]? = some v)
    (h : St n D w0 ((d, v) :: F) L (WB P lq w0 L0 Q fq mq)) : St n D w0 F L (WF P lq w0 L0 Q fq mq (⟨some d, .index t x y, ty, pos, af, none⟩)) :=
  b_val rfl hd (fun a w ha _ => by
    simp [execOp, ha.eval hx, ha.eval hy, Instr.index, asIntOf, run_under (TU.h (P := P) (t := t)), hi, TS.h (P := P) (t := e), part, TA.h (P := P) (t := e), hv]) h
theorem b_index_str {t : TypeId} {x y : Operand} {s : ByteArray} {kk : IntKind} {i : Int} {v : UInt8} [TU P t .string] (hx : ev F x = some (.string s)) (hy : ev F y = some (.int kk i))
    (hd : Nat.ble (d + 1) n = true) (hi : 0 ≤ i) (hv : s[i.toNat]? = some v)
    (h : St n D w0 ((d, .int .u8 v.toNat) :: F) L (WB P lq w0 L0 Q fq mq)) : St n D w0 F L (WF P lq w0 L0 Q fq mq (⟨some d, .index t x y, ty, pos, af, none⟩)) :=
  b_val rfl hd (fun a w ha _ => by
    simp [execOp, ha.eval hx, ha.eval hy, Instr.index, asIntOf, run_under (TU.h (P := P) (t := t)), hi, hv]) h
theorem b_field1 {s : TypeId} {x : Operand} {i o k : Nat} {cs : Array Value} {v : Value} [TFV P s i o k false] (hx : ev F x = some (.agg cs)) (hv : cs[o]? = some v) (hd : Nat.ble (d + 1) n = true)
    (h : St n D w0 ((d, v) :: F) L (WB P lq w0 L0 Q fq mq)) : St n D w0 F L (WF P lq w0 L0 Q fq mq (⟨some d, .field s x i, ty, pos, af, none⟩)) :=
  b_val rfl hd (fun a w ha _ => by simp [execOp, ha.eval hx, TFV.h (P := P) (s := s) (i := i) (k := k) (agg := false), hv]) h

theorem b_load1 {t e : TypeId} {x : Operand} {b off : Nat} {c : Array Value} {fz : Nat × Nat} {v : Value} [TA P t false] (hx : ev F x = some (.pointer (some ⟨b, off, none⟩))) (hk : Kn w0 L0 b (.cells c e fz)) (hv : c[off]? = some v)
    (hd : Nat.ble (d + 1) n = true) (h : St n D w0 ((d, v) :: F) L (WB P lq w0 L0 Q fq mq)) : St n D w0 F L (WF P lq w0 L0 Q fq mq (⟨some d, .load t x, ty, pos, af, none⟩)) :=
  b_val rfl hd (fun a w ha hw => by
    have hc : w.cell? ⟨b, off, none⟩ = some v := by simp [World.cell?, hk w hw, hv]
    simp [execOp, ha.eval hx, Instr.loadAt, Instr.sureAddr, loadVar, TA.h (P := P) (t := t), hc]) h
theorem b_load {t e : TypeId} {x : Operand} {b off : Nat} {l : List Value} {fz : Nat × Nat} {v : Value} (hA : TA P t false) (hx : ev F x = some (.pointer (some ⟨b, off, none⟩))) (hk : Kn w0 L0 b (.cells l.toArray e fz)) (hv : Nth l off v)
    (hd : Nat.ble (d + 1) n = true) (h : St n D w0 ((d, v) :: F) L (WB P lq w0 L0 Q fq mq)) : St n D w0 F L (WF P lq w0 L0 Q fq mq (⟨some d, .load t x, ty, pos, af, none⟩)) :=
  b_load1 hx hk (by simpa using hv.eq) hd h
theorem b_loadN {t e : TypeId} {k : Nat} {x : Operand} {b off : Nat} {c : Array Value} {fz : Nat × Nat} {l : List Value} [TA P t true] [TS P t k] (hx : ev F x = some (.pointer (some ⟨b, off, none⟩))) (hk : Kn w0 L0 b (.cells c e fz))
    (hl : l.length = k) (hv : ∀ j v, l[j]? = some v → c[off + j]? = some v)
    (hd : Nat.ble (d + 1) n = true) (h : St n D w0 ((d, .agg l.toArray) :: F) L (WB P lq w0 L0 Q fq mq)) : St n D w0 F L (WF P lq w0 L0 Q fq mq (⟨some d, .load t x, ty, pos, af, none⟩)) :=
  b_val rfl hd (fun a w ha hw => by
    subst hl
    have hc := run_loadCells_list (P := P) w ⟨b, off, none⟩ l (fun j v hj => by rw [add_none]; simp [World.cell?, hk w hw, hv j v hj])
    simp [execOp, ha.eval hx, Instr.loadAt, Instr.sureAddr, loadVar, TA.h (P := P) (t := t), TS.h (P := P) (t := t), hc]) h
theorem b_loadAll {t e : TypeId} {k : Nat} {x : Operand} {b : Nat} {l : List Value} {fz : Nat × Nat} (hA : TA P t true) (hS : TS P t k) (hx : ev F x = some (.pointer (some ⟨b, 0, none⟩))) (hk : Kn w0 L0 b (.cells l.toArray e fz))
    (hl : l.length = k) (hd : Nat.ble (d + 1) n = true) (h : St n D w0 ((d, .agg l.toArray) :: F) L (WB P lq w0 L0 Q fq mq)) : St n D w0 F L (WF P lq w0 L0 Q fq mq (⟨some d, .load t x, ty, pos, af, none⟩)) :=
  b_loadN hx hk hl (fun j v hj => by simpa using hj) hd h

end
section
variable {P : Program} {n : Nat} {D : List Deferred} {w0 : World} {F : List (Nat × Value)} {L : List Ent} {Q : Exit → Act → World → Prop} {L0 : List Ent} {lq : List Oper} {fq mq : Nat} {ops : Array Oper}
variable {d : Tmp} {ty : TypeId} {pos : String} {af : Array Edge} {rest : List Oper}

theorem b_build {t : TypeId} {pl : List (Nat × Nat)} {xs : List (Nat × Operand)} {vs : List (Nat × Value)} {z : Value} {zl out : List Value} (hP : TPl P t pl) (hZ : TZ P t z zl) (hxs : Parts F xs vs)
    (hf : Fill (fun i : Nat => pl[i]?) zl vs out) (hd : Nat.ble (d + 1) n = true) (h : St n D w0 ((d, .agg out.toArray) :: F) L (WB P lq w0 L0 Q fq mq)) :
    St n D w0 F L (WF P lq w0 L0 Q fq mq (⟨some d, .build t xs.toArray, ty, pos, af, none⟩)) :=
  b_val rfl hd (fun a w ha _ => by
    obtain ⟨fs, hu, hm⟩ := TPl.h (P := P) (t := t) (pl := pl)
    have hxs' := hxs.map ha
    have e1 : xs.toArray.map (fun x => match x with | (i, x) => (i, a.eval x)) = vs.toArray := by rw [← hxs']; simp
    have hfe := hf.eq
    have e2 : (fun i : Nat => pl.toArray[i]?) = (fun i : Nat => pl[i]?) := by funext i; simp
    simp only [execOp, e1, Instr.build, Sem.run_bind, TZ.h (P := P) (t := t), Result.andThen_ok, run_under hu, hm, TZ.hc (P := P) (t := t)]
    rw [show (fun x : Nat => pl.toArray[x]?) = (fun i : Nat => pl[i]?) from e2]
    rw [hfe]
    rfl) h
theorem b_buildA {t e : TypeId} {len k : Nat} {xs : List (Nat × Operand)} {vs : List (Nat × Value)} {z : Value} {zl out : List Value} (hU : TU P t (.array len e)) (hS : TS P e k) (hZ : TZ P t z zl) (hxs : Parts F xs vs)
    (hf : Fill (fun i => some (i * k, k)) zl vs out) (hd : Nat.ble (d + 1) n = true) (h : St n D w0 ((d, .agg out.toArray) :: F) L (WB P lq w0 L0 Q fq mq)) :
    St n D w0 F L (WF P lq w0 L0 Q fq mq (⟨some d, .build t xs.toArray, ty, pos, af, none⟩)) :=
  b_val rfl hd (fun a w ha _ => by
    have hxs' := hxs.map ha
    have e1 : xs.toArray.map (fun x => match x with | (i, x) => (i, a.eval x)) = vs.toArray := by rw [← hxs']; simp
    have hfe := hf.eq
    simp only [execOp, e1, Instr.build, Sem.run_bind, TZ.h (P := P) (t := t), Result.andThen_ok, run_under (TU.h (P := P) (t := t)), TS.h (P := P) (t := e), TZ.hc (P := P) (t := t)]
    rw [hfe]
    rfl) h

theorem b_eql_s {x y : Operand} {t u : TypeId} {ds : List TypeDesc} {xs ys : List Value} {p : Prop} (hQ : TQ P t ds) (hx : ev F x = some (.agg xs.toArray)) (hy : ev F y = some (.agg ys.toArray)) (he : EqP ds xs ys p) (hd : Nat.ble (d + 1) n = true)
    (h : St n D w0 ((d, .bool (B p)) :: F) L (WB P lq w0 L0 Q fq mq)) : St n D w0 F L (WF P lq w0 L0 Q fq mq (⟨some d, .binOp .eql t x y u, ty, pos, af, none⟩)) :=
  b_val rfl hd (fun a w ha _ => by
    obtain ⟨fs, hu, hs, hg, hf⟩ := hQ.h
    simp only [execOp, ha.eval hx, ha.eval hy, Sem.run_bind, run_eqGuard_agg w .eql t _ _ _ _ hg, Result.andThen_ok]
    rw [run_eql_struct]
    show (((Op.equal t (.agg xs.toArray) (.agg ys.toArray)).run P w).andThen _).andThen _ = _
    rw [run_equal_flat hQ he]; rfl) h
theorem b_neq_s {x y : Operand} {t u : TypeId} {ds : List TypeDesc} {xs ys : List Value} {p : Prop} (hQ : TQ P t ds) (hx : ev F x = some (.agg xs.toArray)) (hy : ev F y = some (.agg ys.toArray)) (he : EqP ds xs ys p) (hd : Nat.ble (d + 1) n = true)
    (h : St n D w0 ((d, .bool (B (¬ p))) :: F) L (WB P lq w0 L0 Q fq mq)) : St n D w0 F L (WF P lq w0 L0 Q fq mq (⟨some d, .binOp .neq t x y u, ty, pos, af, none⟩)) :=
  b_val rfl hd (fun a w ha _ => by
    obtain ⟨fs, hu, hs, hg, hf⟩ := hQ.h
    simp only [execOp, ha.eval hx, ha.eval hy, Sem.run_bind, run_eqGuard_agg w .neq t _ _ _ _ hg, Result.andThen_ok]
    rw [run_neq_struct]
    show (((Op.equal t (.agg xs.toArray) (.agg ys.toArray)).run P w).andThen _).andThen _ = _
    rw [run_equal_flat hQ he]
    have e : (!B p) = B (¬ p) := by
      by_cases hp : p
      · rw [B_true hp, B_false (fun h => h hp)]; rfl
      · rw [B_false hp, B_true hp]; rfl
    rw [← e]; rfl) h

theorem b_len {t e : TypeId} {x : Operand} {a0 : Option Addr} {len cap : Nat} (hU : TU P t (.slice e)) (hx : ev F x = some (.slice a0 len cap)) (hd : Nat.ble (d + 1) n = true)
    (h : St n D w0 ((d, .int .i64 len) :: F) L (WB P lq w0 L0 Q fq mq)) : St n D w0 F L (WF P lq w0 L0 Q fq mq (⟨some d, .call ⟨.builtin .len, #[x], #[t]⟩, ty, pos, af, none⟩)) :=
  b_val rfl hd (fun a w ha _ => by simp [execOp, resolve, invoke, builtin, Builtin.len_, ha.eval hx, run_under (TU.h (P := P) (t := t)), goInt]) h
theorem b_len_str {t : TypeId} {x : Operand} {s : ByteArray} (hU : TU P t .string) (hx : ev F x = some (.string s)) (hd : Nat.ble (d + 1) n = true)
    (h : St n D w0 ((d, .int .i64 s.size) :: F) L (WB P lq w0 L0 Q fq mq)) : St n D w0 F L (WF P lq w0 L0 Q fq mq (⟨some d, .call ⟨.builtin .len, #[x], #[t]⟩, ty, pos, af, none⟩)) :=
  b_val rfl hd (fun a w ha _ => by simp [execOp, resolve, invoke, builtin, Builtin.len_, ha.eval hx, run_under (TU.h (P := P) (t := t)), goInt]) h
theorem b_min2 {x y : Operand} {k : IntKind} {m l : Int} {ats : Array TypeId} (hx : ev F x = some (.int k m)) (hy : ev F y = some (.int k l)) (hd : Nat.ble (d + 1) n = true)
    (h : St n D w0 ((d, .int k (if l < m then l else m)) :: F) L (WB P lq w0 L0 Q fq mq)) : St n D w0 F L (WF P lq w0 L0 Q fq mq (⟨some d, .call ⟨.builtin .min, #[x, y], ats⟩, ty, pos, af, none⟩)) :=
  b_val rfl hd (fun a w ha _ => by simp [execOp, resolve, invoke, builtin, Builtin.min_, Builtin.min2, ha.eval hx, ha.eval hy]) h
theorem b_max2 {x y : Operand} {k : IntKind} {m l : Int} {ats : Array TypeId} (hx : ev F x = some (.int k m)) (hy : ev F y = some (.int k l)) (hd : Nat.ble (d + 1) n = true)
    (h : St n D w0 ((d, .int k (if m < l then l else m)) :: F) L (WB P lq w0 L0 Q fq mq)) : St n D w0 F L (WF P lq w0 L0 Q fq mq (⟨some d, .call ⟨.builtin .max, #[x, y], ats⟩, ty, pos, af, none⟩)) :=
  b_val rfl hd (fun a w ha _ => by simp [execOp, resolve, invoke, builtin, Builtin.max_, Builtin.max2, ha.eval hx, ha.eval hy]) h
theorem b_func {fn : Fn} {xs ys : List Operand} {vs us : List Value} (hxs : Evs F xs vs) (hys : Evs F ys us) (hd : Nat.ble (d + 1) n = true)
    (h : St n D w0 ((d, .func fn vs.toArray us.toArray) :: F) L (WB P lq w0 L0 Q fq mq)) : St n D w0 F L (WF P lq w0 L0 Q fq mq (⟨some d, .makeFunc fn xs.toArray ys.toArray, ty, pos, af, none⟩)) :=
  b_val rfl hd (fun a w ha _ => by
    have e1 : xs.toArray.map a.eval = vs.toArray := by rw [← hxs.map ha]; simp
    have e2 : ys.toArray.map a.eval = us.toArray := by rw [← hys.map ha]; simp
    simp [execOp, Instr.makeFunc, hxs.map ha, hys.map ha]) h

variable {fn : Func} {R : Ending → World → Prop}
end
section
variable {P : Program} {n : Nat} {D : List Deferred} {w0 : World} {F : List (Nat × Value)} {L : List Ent} {Q : Exit → Act → World → Prop} {L0 : List Ent} {lq : List Oper} {fq mq : Nat} {ops : Array Oper}
variable {d : Tmp} {ty : TypeId} {pos : String} {af : Array Edge} {rest : List Oper}

theorem b_loadC {t e : TypeId} {x : Operand} {b off : Nat} {c : Array Value} {fz : Nat × Nat} {v : Value} (hA : TA P t false) (hx : ev F x = some (.pointer (some ⟨b, off, none⟩))) (hk : Kn w0 L0 b (.cells c e fz)) (hv : c[off]? = some v)
    (hd : Nat.ble (d + 1) n = true) (h : St n D w0 ((d, v) :: F) L (WB P lq w0 L0 Q fq mq)) : St n D w0 F L (WF P lq w0 L0 Q fq mq (⟨some d, .load t x, ty, pos, af, none⟩)) := b_load1 hx hk hv hd h
theorem b_loadM {t e : TypeId} {k : Nat} {x : Operand} {b off : Nat} {c : Array Value} {fz : Nat × Nat} {l : List Value} (hA : TA P t true) (hS : TS P t k) (hx : ev F x = some (.pointer (some ⟨b, off, none⟩))) (hk : Kn w0 L0 b (.cells c e fz))
    (hl : l.length = k) (hv : ∀ j v, l[j]? = some v → c[off + j]? = some v)
    (hd : Nat.ble (d + 1) n = true) (h : St n D w0 ((d, .agg l.toArray) :: F) L (WB P lq w0 L0 Q fq mq)) : St n D w0 F L (WF P lq w0 L0 Q fq mq (⟨some d, .load t x, ty, pos, af, none⟩)) := b_loadN hx hk hl hv hd h

theorem b_loadCO {t e : TypeId} {x : Operand} {b off : Nat} {c : Array Value} {fz : Nat × Nat} {v : Value} (o' : Nat) (hA : TA P t false) (hx : ev F x = some (.pointer (some ⟨b, off, none⟩))) (he : off = o') (hk : Kn w0 L0 b (.cells c e fz)) (hv : c[o']? = some v)
    (hd : Nat.ble (d + 1) n = true) (h : St n D w0 ((d, v) :: F) L (WB P lq w0 L0 Q fq mq)) : St n D w0 F L (WF P lq w0 L0 Q fq mq (⟨some d, .load t x, ty, pos, af, none⟩)) := b_load1 hx hk (by rw [he]; exact hv) hd h
theorem b_loadMO {t e : TypeId} {k : Nat} {x : Operand} {b off : Nat} {c : Array Value} {fz : Nat × Nat} {l : List Value} (o' : Nat) (hA : TA P t true) (hS : TS P t k) (hx : ev F x = some (.pointer (some ⟨b, off, none⟩))) (he : off = o') (hk : Kn w0 L0 b (.cells c e fz))
    (hl : l.length = k) (hv : ∀ j v, l[j]? = some v → c[o' + j]? = some v)
    (hd : Nat.ble (d + 1) n = true) (h : St n D w0 ((d, .agg l.toArray) :: F) L (WB P lq w0 L0 Q fq mq)) : St n D w0 F L (WF P lq w0 L0 Q fq mq (⟨some d, .load t x, ty, pos, af, none⟩)) := b_loadN hx hk hl (by rw [he]; exact hv) hd h

theorem b_idx {t e : TypeId} {k m : Nat} {x y : Operand} {b off len cap : Nat} {kk : IntKind} {i : Int} (hU : TU P t (.slice e)) (hS : TS P e k) (hx : ev F x = some (.slice (some ⟨b, off, none⟩) len cap)) (hy : ev F y = some (.int kk i)) (hm : i = (m : Int)) (hd : Nat.ble (d + 1) n = true)
    (hi : m < len) (h : St n D w0 ((d, .pointer (some ⟨b, off + m * k, none⟩)) :: F) L (WB P lq w0 L0 Q fq mq)) : St n D w0 F L (WF P lq w0 L0 Q fq mq (⟨some d, .indexAddr t x y, ty, pos, af, none⟩)) :=
  b_val rfl hd (fun a w ha _ => by
    subst hm
    simp [execOp, ha.eval hx, ha.eval hy, Instr.indexAt, asIntOf, run_under (TU.h (P := P) (t := t)), hi, TS.h (P := P) (t := e), add_none]) h
theorem b_ldV {t e : TypeId} {k : Nat} {x : Operand} {b off : Nat} {c : Array Value} {fz : Nat × Nat} {l : List Value} (hA : TA P t true) (hS : TS P t k) (hx : ev F x = some (.pointer (some ⟨b, off, none⟩))) (hk : Kn w0 L0 b (.cells c e fz))
    (hv : ∀ j v, l[j]? = some v → c[off + j]? = some v) (hl : l.length = k)
    (hd : Nat.ble (d + 1) n = true) (h : St n D w0 ((d, .agg l.toArray) :: F) L (WB P lq w0 L0 Q fq mq)) : St n D w0 F L (WF P lq w0 L0 Q fq mq (⟨some d, .load t x, ty, pos, af, none⟩)) :=
  b_val rfl hd (fun a w ha hw => by
    subst hl
    have hc := run_loadCells_list (P := P) w ⟨b, off, none⟩ l (fun j v hj => by rw [add_none]; simp [World.cell?, hk w hw, hv j v hj])
    simp [execOp, ha.eval hx, Instr.loadAt, Instr.sureAddr, loadVar, TA.h (P := P) (t := t), TS.h (P := P) (t := t), hc]) h
theorem b_ldF {t e : TypeId} {x : Operand} {b p o : Nat} {c : Array Value} {fz : Nat × Nat} {v : Value} {l : List Value} (hA : TA P t false) (hx : ev F x = some (.pointer (some ⟨b, p + o, none⟩))) (hk : Kn w0 L0 b (.cells c e fz))
    (hE : ∀ j v, l[j]? = some v → c[p + j]? = some v) (hv : Nth l o v)
    (hd : Nat.ble (d + 1) n = true) (h : St n D w0 ((d, v) :: F) L (WB P lq w0 L0 Q fq mq)) : St n D w0 F L (WF P lq w0 L0 Q fq mq (⟨some d, .load t x, ty, pos, af, none⟩)) :=
  b_val rfl hd (fun a w ha hw => by
    have hc : w.cell? ⟨b, p + o, none⟩ = some v := by simp [World.cell?, hk w hw, hE o v hv.eq]
    simp [execOp, ha.eval hx, Instr.loadAt, Instr.sureAddr, loadVar, TA.h (P := P) (t := t), hc]) h
theorem b_slice {t e : TypeId} {k : Nat} {x : Operand} {lo hi : Option Operand} {vlo vhi : Option Value} {b off len cap l h' : Nat} (hU : TU P t (.slice e)) (hS : TS P e k) (hx : ev F x = some (.slice (some ⟨b, off, none⟩) len cap)) (h1 : opv F lo = some vlo) (h2 : opv F hi = some vhi)
    (hlo : vlo = none ∧ l = 0 ∨ ∃ k, vlo = some (.int k l)) (hhi : vhi = none ∧ h' = len ∨ ∃ k, vhi = some (.int k h')) (hb : l ≤ h' ∧ h' ≤ cap ∧ l < cap) (hd : Nat.ble (d + 1) n = true)
    (h : St n D w0 ((d, .slice (some ⟨b, off + l * k, none⟩) (h' - l) (cap - l)) :: F) L (WB P lq w0 L0 Q fq mq)) : St n D w0 F L (WF P lq w0 L0 Q fq mq (⟨some d, .slice t x lo hi none, ty, pos, af, none⟩)) :=
  b_val rfl hd (fun a w ha _ => by
    have e1 := opv_eval ha h1
    have e2 := opv_eval ha h2
    have hne : ¬ cap = l := by omega
    have hsb := run_sliceBounds2 (P := P) (w := w) (isS := true) (len := len) (cap := cap) hlo hhi hb.1 hb.2.1
    simp [execOp, ha.eval hx, e1, e2, Instr.sliceAt, Instr.sliceAt, Instr.slice, run_under (TU.h (P := P) (t := t)), hsb, TS.h (P := P) (t := e), hne, add_none]) h
theorem b_sliceH {t e : TypeId} {k : Nat} {x : Operand} {hi : Option Operand} {vhi : Option Value} {a0 : Option Addr} {len cap h' : Nat} (hU : TU P t (.slice e)) (hS : TS P e k) (hx : ev F x = some (.slice a0 len cap)) (h2 : opv F hi = some vhi)
    (hhi : vhi = none ∧ h' = len ∨ ∃ k, vhi = some (.int k h')) (hb : h' ≤ cap) (hd : Nat.ble (d + 1) n = true)
    (h : St n D w0 ((d, .slice a0 h' cap) :: F) L (WB P lq w0 L0 Q fq mq)) : St n D w0 F L (WF P lq w0 L0 Q fq mq (⟨some d, .slice t x none hi none, ty, pos, af, none⟩)) :=
  b_val rfl hd (fun a w ha _ => by
    have e2 := opv_eval ha h2
    have hsb := run_sliceBounds2 (P := P) (w := w) (isS := true) (len := len) (cap := cap) (l := 0) (.inl ⟨rfl, rfl⟩) hhi (Nat.zero_le _) hb
    have e3 : (if cap = 0 then a0 else a0.map (·.add (0 * k))) = a0 := by
      split
      · rfl
      · cases a0 with
        | none => rfl
        | some p => simp [Addr.add]
    simp [execOp, ha.eval hx, e2, Instr.sliceAt, Instr.slice, run_under (TU.h (P := P) (t := t)), hsb, TS.h (P := P) (t := e)]
    intro _
    cases a0 with
    | none => rfl
    | some p => simp [Addr.add]) h
theorem b_sliceS {t : TypeId} {x : Operand} {lo hi : Option Operand} {vlo vhi : Option Value} {s : ByteArray} {l h' : Nat} (hU : TU P t .string) (hx : ev F x = some (.string s)) (h1 : opv F lo = some vlo) (h2 : opv F hi = some vhi)
    (hlo : vlo = none ∧ l = 0 ∨ ∃ k, vlo = some (.int k l)) (hhi : vhi = none ∧ h' = s.size ∨ ∃ k, vhi = some (.int k h')) (hb : l ≤ h' ∧ h' ≤ s.size) (hd : Nat.ble (d + 1) n = true)
    (h : St n D w0 ((d, .string (s.extract l h')) :: F) L (WB P lq w0 L0 Q fq mq)) : St n D w0 F L (WF P lq w0 L0 Q fq mq (⟨some d, .slice t x lo hi none, ty, pos, af, none⟩)) :=
  b_val rfl hd (fun a w ha _ => by
    have e1 := opv_eval ha h1
    have e2 := opv_eval ha h2
    have hsb := run_sliceBounds2 (P := P) (w := w) (isS := false) (len := s.size) (cap := s.size) hlo hhi hb.1 hb.2
    simp [execOp, ha.eval hx, e1, e2, Instr.sliceAt, Instr.sliceAt, Instr.slice, run_under (TU.h (P := P) (t := t)), hsb]) h
end
section
variable {P : Program} {n : Nat} {D : List Deferred} {w0 : World} {F : List (Nat × Value)} {L L' : List Ent} {Q : Exit → Act → World → Prop} {L0 : List Ent} {lq : List Oper} {fq mq : Nat} {ops : Array Oper}
variable {d : Tmp} {ty : TypeId} {pos : String} {af : Array Edge} {rest : List Oper}
theorem b_look_out {t k e : TypeId} {dk : TypeDesc} {x y : Operand} {b : Nat} {key z : Value} {zl : List Value} {m : List (Value × Value)} (hU : TU P t (.map k e)) (hV : TU P k dk) (hZ : TZ P e z zl) (hx : ev F x = some (.map (some b))) (hy : ev F y = some key)
    (hk : Kn w0 L0 b (MO m)) (hm : MK dk m) (hkey : MapKept.IsKey dk key) (hn : ∀ p ∈ m, p.1 ≠ key) (hd : Nat.ble (d + 1) n = true)
    (h : St n D w0 ((d, z) :: F) L (WB P lq w0 L0 Q fq mq)) : St n D w0 F L (WF P lq w0 L0 Q fq mq (⟨some d, .lookup t x y false, ty, pos, af, none⟩)) :=
  b_val rfl hd (fun a w ha hw => by
    have hb := hk w hw
    have h1 := MapKept.run_getObj_map (P := P) hb
    simp [execOp, Instr.lookup, ha.eval hx, ha.eval hy, run_under (TU.h (P := P) (t := t)), h1, MapKept.run_checkKey (TU.h (P := P) (t := k)) hkey,
      MapKept.run_findKey (TU.h (P := P) (t := k)) (find_out hm hkey hn), TZ.h (P := P) (t := e)]) h
theorem b_look_in {t k e : TypeId} {dk : TypeDesc} {x y : Operand} {b : Nat} {key v : Value} {m : List (Value × Value)} (hU : TU P t (.map k e)) (hV : TU P k dk) (hx : ev F x = some (.map (some b))) (hy : ev F y = some key)
    (hk : Kn w0 L0 b (MO m)) (hm : MK dk m) (hkey : MapKept.IsKey dk key) (j : Nat) (hj : m[j]? = some (key, v)) (hd : Nat.ble (d + 1) n = true)
    (h : St n D w0 ((d, v) :: F) L (WB P lq w0 L0 Q fq mq)) : St n D w0 F L (WF P lq w0 L0 Q fq mq (⟨some d, .lookup t x y false, ty, pos, af, none⟩)) :=
  b_val rfl hd (fun a w ha hw => by
    have hb := hk w hw
    have h1 := MapKept.run_getObj_map (P := P) hb
    simp [execOp, Instr.lookup, ha.eval hx, ha.eval hy, run_under (TU.h (P := P) (t := t)), h1, MapKept.run_checkKey (TU.h (P := P) (t := k)) hkey,
      MapKept.run_findKey (TU.h (P := P) (t := k)) (find_in hm hkey j hj)]) h
theorem b_lookT_out {t k e : TypeId} {dk : TypeDesc} {x y : Operand} {b : Nat} {key z : Value} {zl : List Value} {m : List (Value × Value)} (hU : TU P t (.map k e)) (hV : TU P k dk) (hZ : TZ P e z zl) (hx : ev F x = some (.map (some b))) (hy : ev F y = some key)
    (hk : Kn w0 L0 b (MO m)) (hm : MK dk m) (hkey : MapKept.IsKey dk key) (hn : ∀ p ∈ m, p.1 ≠ key) (hd : Nat.ble (d + 1) n = true)
    (h : St n D w0 ((d, .tuple #[z, .bool false]) :: F) L (WB P lq w0 L0 Q fq mq)) : St n D w0 F L (WF P lq w0 L0 Q fq mq (⟨some d, .lookup t x y true, ty, pos, af, none⟩)) :=
  b_val rfl hd (fun a w ha hw => by
    have hb := hk w hw
    have h1 := MapKept.run_getObj_map (P := P) hb
    simp [execOp, Instr.lookup, ha.eval hx, ha.eval hy, run_under (TU.h (P := P) (t := t)), h1, MapKept.run_checkKey (TU.h (P := P) (t := k)) hkey,
      MapKept.run_findKey (TU.h (P := P) (t := k)) (find_out hm hkey hn), TZ.h (P := P) (t := e)]) h
theorem b_lookT_in {t k e : TypeId} {dk : TypeDesc} {x y : Operand} {b : Nat} {key v : Value} {m : List (Value × Value)} (hU : TU P t (.map k e)) (hV : TU P k dk) (hx : ev F x = some (.map (some b))) (hy : ev F y = some key)
    (hk : Kn w0 L0 b (MO m)) (hm : MK dk m) (hkey : MapKept.IsKey dk key) (j : Nat) (hj : m[j]? = some (key, v)) (hd : Nat.ble (d + 1) n = true)
    (h : St n D w0 ((d, .tuple #[v, .bool true]) :: F) L (WB P lq w0 L0 Q fq mq)) : St n D w0 F L (WF P lq w0 L0 Q fq mq (⟨some d, .lookup t x y true, ty, pos, af, none⟩)) :=
  b_val rfl hd (fun a w ha hw => by
    have hb := hk w hw
    have h1 := MapKept.run_getObj_map (P := P) hb
    simp [execOp, Instr.lookup, ha.eval hx, ha.eval hy, run_under (TU.h (P := P) (t := t)), h1, MapKept.run_checkKey (TU.h (P := P) (t := k)) hkey,
      MapKept.run_findKey (TU.h (P := P) (t := k)) (find_in hm hkey j hj)]) h
theorem b_lookS {t k e : TypeId} {kd : IntKind} {x y : Operand} {b : Nat} {i : Int} {l : List Int} (hU : TU P t (.map k e)) (hV : TU P k (.int kd)) (hZ : TZ P e (.bool false) [.bool false]) (hx : ev F x = some (.map (some b))) (hy : ev F y = some (.int kd i))
    (hk : Kn w0 L0 b (MO (setM kd l))) (hm : l.Nodup) (hd : Nat.ble (d + 1) n = true)
    (h : St n D w0 ((d, .bool (decide (i ∈ l))) :: F) L (WB P lq w0 L0 Q fq mq)) : St n D w0 F L (WF P lq w0 L0 Q fq mq (⟨some d, .lookup t x y false, ty, pos, af, none⟩)) := by
  by_cases hi : i ∈ l
  · obtain ⟨j, hj⟩ := List.getElem?_of_mem hi
    have e1 : decide (i ∈ l) = true := decide_eq_true hi
    rw [e1] at h
    exact b_look_in hU hV hx hy hk (MK.set hm) rfl j (v := .bool true) (by simp [setM, hj]) hd h
  · have e1 : decide (i ∈ l) = false := decide_eq_false hi
    rw [e1] at h
    exact b_look_out hU hV hZ hx hy hk (MK.set hm) rfl (setM_out hi) hd h
end
section
variable {P : Program} {n : Nat} {D : List Deferred} {w0 : World} {F : List (Nat × Value)} {L : List Ent} {Q : Exit → Act → World → Prop} {L0 : List Ent} {lq : List Oper} {fq mq : Nat} {ops : Array Oper}
variable {d : Tmp} {ty : TypeId} {pos : String} {af : Array Edge} {rest : List Oper}
theorem b_len_t {t : TypeId} {x : Operand} {l : List UInt8} (hU : TU P t .string) (hx : ev F x = some (str l)) (hd : Nat.ble (d + 1) n = true)
    (h : St n D w0 ((d, .int .i64 l.length) :: F) L (WB P lq w0 L0 Q fq mq)) : St n D w0 F L (WF P lq w0 L0 Q fq mq (⟨some d, .call ⟨.builtin .len, #[x], #[t]⟩, ty, pos, af, none⟩)) :=
  b_val rfl hd (fun a w ha _ => by simp [execOp, resolve, invoke, builtin, Builtin.len_, ha.eval hx, str, run_under (TU.h (P := P) (t := t)), goInt, str_size]) h
theorem b_drop_t {t : TypeId} {x lo : Operand} {l : List UInt8} {kk : IntKind} {i : Int} {m : Nat} (hU : TU P t .string) (hx : ev F x = some (str l)) (hy : ev F lo = some (.int kk i)) (hm : i = (m : Int)) (hb : m ≤ l.length) (hd : Nat.ble (d + 1) n = true)
    (h : St n D w0 ((d, str (l.drop m)) :: F) L (WB P lq w0 L0 Q fq mq)) : St n D w0 F L (WF P lq w0 L0 Q fq mq (⟨some d, .slice t x (some lo) none none, ty, pos, af, none⟩)) :=
  b_val rfl hd (fun a w ha _ => by
    subst hm
    have hsb := run_sliceBounds2 (P := P) (w := w) (isS := false) (len := l.length) (cap := l.length) (lo := some (.int kk m)) (hi := none) (l := m) (h := l.length) (.inr ⟨_, rfl⟩) (.inl ⟨rfl, rfl⟩) hb (Nat.le_refl _)
    have hsz := str_size l
    simp [execOp, ha.eval hx, ha.eval hy, str, Instr.sliceAt, Instr.slice, run_under (TU.h (P := P) (t := t)), hsz, hsb, drop_bytes l m hb]) h
theorem b_take_t {t : TypeId} {x hi : Operand} {l : List UInt8} {kk : IntKind} {i : Int} {m : Nat} (hU : TU P t .string) (hx : ev F x = some (str l)) (hy : ev F hi = some (.int kk i)) (hm : i = (m : Int)) (hb : m ≤ l.length) (hd : Nat.ble (d + 1) n = true)
    (h : St n D w0 ((d, str (l.take m)) :: F) L (WB P lq w0 L0 Q fq mq)) : St n D w0 F L (WF P lq w0 L0 Q fq mq (⟨some d, .slice t x none (some hi) none, ty, pos, af, none⟩)) :=
  b_val rfl hd (fun a w ha _ => by
    subst hm
    have hsb := run_sliceBounds2 (P := P) (w := w) (isS := false) (len := l.length) (cap := l.length) (lo := none) (hi := some (.int kk m)) (l := 0) (h := m) (.inl ⟨rfl, rfl⟩) (.inr ⟨_, rfl⟩) (Nat.zero_le _) hb
    have hsz := str_size l
    simp [execOp, ha.eval hx, ha.eval hy, str, Instr.sliceAt, Instr.slice, run_under (TU.h (P := P) (t := t)), hsz, hsb, take_bytes l m hb]) h
theorem b_index_t {t : TypeId} {x y : Operand} {l : List UInt8} {kk : IntKind} {i : Int} {m : Nat} {v : UInt8} (hU : TU P t .string) (hx : ev F x = some (str l)) (hy : ev F y = some (.int kk i)) (hm : i = (m : Int)) (hv : l[m]? = some v)
    (hd : Nat.ble (d + 1) n = true) (h : St n D w0 ((d, .int .u8 v.toNat) :: F) L (WB P lq w0 L0 Q fq mq)) : St n D w0 F L (WF P lq w0 L0 Q fq mq (⟨some d, .index t x y, ty, pos, af, none⟩)) :=
  b_val rfl hd (fun a w ha _ => by
    subst hm
    have hg : (⟨l.toArray⟩ : ByteArray)[m]? = some v := by
      have hlt := (List.getElem?_eq_some_iff.1 hv).1
      have hsz : m < (⟨l.toArray⟩ : ByteArray).size := by rw [str_size]; exact hlt
      rw [getElem?_pos (⟨l.toArray⟩ : ByteArray) m hsz]
      have := (List.getElem?_eq_some_iff.1 hv).2
      rw [← this]; rfl
    simp [execOp, ha.eval hx, ha.eval hy, str, Instr.index, asIntOf, run_under (TU.h (P := P) (t := t)), hg]) h
theorem b_eql_t {x y : Operand} {l m : List UInt8} {t u : TypeId} (hU : TU P t .string) (hx : ev F x = some (str l)) (hy : ev F y = some (str m)) (hd : Nat.ble (d + 1) n = true)
    (h : St n D w0 ((d, .bool (decide (l = m))) :: F) L (WB P lq w0 L0 Q fq mq)) : St n D w0 F L (WF P lq w0 L0 Q fq mq (⟨some d, .binOp .eql t x y u, ty, pos, af, none⟩)) :=
  b_val rfl hd (fun a w ha _ => by
    simp [execOp, ha.eval hx, ha.eval hy, str, eqGuard, binOp, Op.stringOp, bytes_toList, beq_texts]) h
theorem b_neq_t {x y : Operand} {l m : List UInt8} {t u : TypeId} (hU : TU P t .string) (hx : ev F x = some (str l)) (hy : ev F y = some (str m)) (hd : Nat.ble (d + 1) n = true)
    (h : St n D w0 ((d, .bool (decide (l ≠ m))) :: F) L (WB P lq w0 L0 Q fq mq)) : St n D w0 F L (WF P lq w0 L0 Q fq mq (⟨some d, .binOp .neq t x y u, ty, pos, af, none⟩)) :=
  b_val rfl hd (fun a w ha _ => by
    simp [execOp, ha.eval hx, ha.eval hy, str, eqGuard, binOp, Op.stringOp, bytes_toList, beq_texts]) h
theorem b_min3 {x y z : Operand} {k : IntKind} {m l p : Int} {ats : Array TypeId} (hx : ev F x = some (.int k m)) (hy : ev F y = some (.int k l)) (hz : ev F z = some (.int k p)) (hd : Nat.ble (d + 1) n = true)
    (h : St n D w0 ((d, .int k (min (min m l) p)) :: F) L (WB P lq w0 L0 Q fq mq)) : St n D w0 F L (WF P lq w0 L0 Q fq mq (⟨some d, .call ⟨.builtin .min, #[x, y, z], ats⟩, ty, pos, af, none⟩)) :=
  b_val rfl hd (fun a w ha _ => by simp [execOp, resolve, invoke, builtin, Builtin.min_, Builtin.min2, ha.eval hx, ha.eval hy, ha.eval hz, ite_min]) h
theorem b_add8 {x y : Operand} {m l : Int} {t u : TypeId} (hx : ev F x = some (.int .u8 m)) (hy : ev F y = some (.int .u8 l)) (hd : Nat.ble (d + 1) n = true) (hr : 0 ≤ m + l ∧ m + l ≤ 255)
    (h : St n D w0 ((d, .int .u8 (m + l)) :: F) L (WB P lq w0 L0 Q fq mq)) : St n D w0 F L (WF P lq w0 L0 Q fq mq (⟨some d, .binOp .add t x y u, ty, pos, af, none⟩)) :=
  b_val rfl hd (fun a w ha _ => by
    have hw : IntKind.u8.wrap (m + l) = m + l := by rw [IntKind.wrap_u8]; omega
    simp [execOp, ha.eval hx, ha.eval hy, eqGuard, binOp, Op.intArith, hw]) h
theorem b_eql_n {x y : Operand} {a0 : Option Addr} {m c m' c' : Nat} {t e u : TypeId} (hU : TU P t (.slice e)) (hx : ev F x = some (.slice a0 m c)) (hy : ev F y = some (.slice none m' c')) (hd : Nat.ble (d + 1) n = true)
    (h : St n D w0 ((d, .bool a0.isNone) :: F) L (WB P lq w0 L0 Q fq mq)) : St n D w0 F L (WF P lq w0 L0 Q fq mq (⟨some d, .binOp .eql t x y u, ty, pos, af, none⟩)) :=
  b_val rfl hd (fun a w ha _ => by
    have h1 := Lib.run_eql_slice_nil (P := P) w t e a0 m c m' c' (TU.h (P := P) (t := t))
    simp [execOp, ha.eval hx, ha.eval hy, eqGuard, h1]) h
theorem b_idxA {t e : TypeId} {k len m : Nat} {x y : Operand} {b off : Nat} {kk : IntKind} {i : Int} (hU : TU P t (.array len e)) (hS : TS P e k) (hx : ev F x = some (.pointer (some ⟨b, off, none⟩))) (hy : ev F y = some (.int kk i)) (hm : i = (m : Int)) (hd : Nat.ble (d + 1) n = true)
    (hi : m < len) (h : St n D w0 ((d, .pointer (some ⟨b, off + m * k, none⟩)) :: F) L (WB P lq w0 L0 Q fq mq)) : St n D w0 F L (WF P lq w0 L0 Q fq mq (⟨some d, .indexAddr t x y, ty, pos, af, none⟩)) :=
  b_val rfl hd (fun a w ha _ => by
    subst hm
    simp [execOp, ha.eval hx, ha.eval hy, Instr.indexAt, asIntOf, run_under (TU.h (P := P) (t := t)), hi, TS.h (P := P) (t := e), add_none, Instr.sureAddr]) h
theorem b_cat_t {x y : Operand} {l m : List UInt8} {t u : TypeId} (hU : TU P t .string) (hx : ev F x = some (str l)) (hy : ev F y = some (str m)) (hb : l.length + m.length ≤ 9223372036854775807) (hd : Nat.ble (d + 1) n = true)
    (h : St n D w0 ((d, str (l ++ m)) :: F) L (WB P lq w0 L0 Q fq mq)) : St n D w0 F L (WF P lq w0 L0 Q fq mq (⟨some d, .binOp .add t x y u, ty, pos, af, none⟩)) :=
  b_val rfl hd (fun a w ha _ => by
    have h1 := run_string_add_sum (P := P) (w := w) ⟨l.toArray⟩ ⟨m.toArray⟩ (by rw [str_size, str_size]; exact hb)
    have h2 : (⟨l.toArray⟩ : ByteArray) ++ ⟨m.toArray⟩ = ⟨(l ++ m).toArray⟩ := by apply ByteArray.ext; simp
    rw [h2] at h1
    simp [execOp, ha.eval hx, ha.eval hy, str, eqGuard, binOp, h1]) h
end

end Go.Sx
