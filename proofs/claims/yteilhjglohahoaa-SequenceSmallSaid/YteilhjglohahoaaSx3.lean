/- The rules of single operations: numbers, tests, boxes, structs, addresses, loads, stores. No program in sight. -/
import Derived.Test.YteilhjglohahoaaSx2
namespace Go.Sx
open Go Go.RowKit

class TU (P : Program) (t : TypeId) (d : outParam TypeDesc) : Prop where
  h : P.underlying t = some d
class TS (P : Program) (t : TypeId) (sz : outParam Nat) : Prop where
  h : ∀ w, (sizeOf t).run P w = .ok sz w
class TA (P : Program) (t : TypeId) (b : outParam Bool) : Prop where
  h : ∀ w, (isAgg t).run P w = .ok b w
/-- How many bytes a value of the type takes. -/
class TBy (P : Program) (t : TypeId) (n : outParam Nat) : Prop where
  h : ∀ w, ∃ i : TypeInfo, (typeInfo t).run P w = .ok i w ∧ i.bytes = n
class TZ (P : Program) (t : TypeId) (z : outParam Value) (zl : outParam (List Value)) : Prop where
  h : ∀ w, (zeroValue t).run P w = .ok z w
  hc : z.cells = zl.toArray

section
variable {P : Program}
theorem run_under {t : TypeId} {d : TypeDesc} (h : P.underlying t = some d) (w : World) : (underlying t).run P w = .ok d w := by
  simp [underlying, h]

variable {r : Option Nat} {n : Nat} {D : List Deferred} {w0 : World} {F : List (Nat × Value)} {L : List Ent} {Q : Exit → Act → World → Prop} {ops : Array Oper}
variable {d : Tmp} {ty : TypeId} {pos : String} {af : Array Edge} {rest : List Oper}

/-! ## values -/
theorem o_move {x : Operand} {v : Value} (hx : ev F x = some v) (hd : Nat.ble (d + 1) n = true) (h : St n D w0 ((d, v) :: F) L (WL r P ops Q rest)) :
    St n D w0 F L (WL r P ops Q (⟨some d, .move x, ty, pos, af, none⟩ :: rest)) :=
  o_val rfl hd (fun a w ha _ => by simp [execOp, ha.eval hx]) h
theorem o_assign {x : Operand} {v : Value} (hx : ev F x = some v) (hd : Nat.ble (d + 1) n = true) (h : St n D w0 ((d, v) :: F) L (WL r P ops Q rest)) :
    St n D w0 F L (WL r P ops Q (⟨some d, .assign x, ty, pos, af, none⟩ :: rest)) :=
  o_val rfl hd (fun a w ha _ => by simp [execOp, ha.eval hx]) h
theorem o_pick_t {c x y : Operand} {b : Bool} {v : Value} (hc : ev F c = some (.bool b)) (hb : b = true) (hx : ev F x = some v) (hd : Nat.ble (d + 1) n = true) (h : St n D w0 ((d, v) :: F) L (WL r P ops Q rest)) :
    St n D w0 F L (WL r P ops Q (⟨some d, .pick c x y, ty, pos, af, none⟩ :: rest)) :=
  o_val rfl hd (fun a w ha _ => by subst hb; simp [execOp, ha.eval hx, ha.eval hc, asBool]) h
theorem o_pick_f {c x y : Operand} {b : Bool} {v : Value} (hc : ev F c = some (.bool b)) (hb : b = false) (hy : ev F y = some v) (hd : Nat.ble (d + 1) n = true) (h : St n D w0 ((d, v) :: F) L (WL r P ops Q rest)) :
    St n D w0 F L (WL r P ops Q (⟨some d, .pick c x y, ty, pos, af, none⟩ :: rest)) :=
  o_val rfl hd (fun a w ha _ => by subst hb; simp [execOp, ha.eval hy, ha.eval hc, asBool]) h
theorem o_not {x : Operand} {b : Bool} {t : TypeId} (hx : ev F x = some (.bool b)) (hd : Nat.ble (d + 1) n = true) (h : St n D w0 ((d, .bool !b) :: F) L (WL r P ops Q rest)) :
    St n D w0 F L (WL r P ops Q (⟨some d, .unOp .not t x, ty, pos, af, none⟩ :: rest)) :=
  o_val rfl hd (fun a w ha _ => by simp [execOp, ha.eval hx, Op.unary]) h
theorem o_not_d {x : Operand} {p : Prop} {_ : Decidable p} {t : TypeId} (hx : ev F x = some (.bool (decide p))) (hd : Nat.ble (d + 1) n = true) (h : St n D w0 ((d, .bool (decide (¬ p))) :: F) L (WL r P ops Q rest)) :
    St n D w0 F L (WL r P ops Q (⟨some d, .unOp .not t x, ty, pos, af, none⟩ :: rest)) :=
  o_not hx hd (by rw [← decide_not]; exact h)
theorem o_not_B {x : Operand} {p : Prop} {t : TypeId} (hx : ev F x = some (.bool (B p))) (hd : Nat.ble (d + 1) n = true) (h : St n D w0 ((d, .bool (B (¬ p))) :: F) L (WL r P ops Q rest)) :
    St n D w0 F L (WL r P ops Q (⟨some d, .unOp .not t x, ty, pos, af, none⟩ :: rest)) :=
  o_not hx hd (by
    have e : (!B p) = B (¬ p) := by
      by_cases hp : p
      · rw [B_true hp, B_false (fun h => h hp)]; rfl
      · rw [B_false hp, B_true hp]; rfl
    rw [e]; exact h)
theorem o_neg {x : Operand} {k : IntKind} {m : Int} {t : TypeId} (hx : ev F x = some (.int k m)) (hd : Nat.ble (d + 1) n = true) (h : St n D w0 ((d, .int k (k.wrap (0 - m))) :: F) L (WL r P ops Q rest)) :
    St n D w0 F L (WL r P ops Q (⟨some d, .unOp .neg t x, ty, pos, af, none⟩ :: rest)) :=
  o_val rfl hd (fun a w ha _ => by simp [execOp, ha.eval hx, Op.unary, Op.intArith]) h
theorem o_extract {x : Operand} {vs : Array Value} {i : Nat} {v : Value} (hx : ev F x = some (.tuple vs)) (hi : vs[i]? = some v) (hd : Nat.ble (d + 1) n = true) (h : St n D w0 ((d, v) :: F) L (WL r P ops Q rest)) :
    St n D w0 F L (WL r P ops Q (⟨some d, .extract x i, ty, pos, af, none⟩ :: rest)) :=
  o_val rfl hd (fun a w ha _ => by simp [execOp, ha.eval hx, Instr.extract, hi]) h

/-! ## tests on integers -/
section
variable {x y : Operand} {k : IntKind} {m l : Int} {t u : TypeId} (hx : ev F x = some (.int k m)) (hy : ev F y = some (.int k l)) (hd : Nat.ble (d + 1) n = true)
include hx hy hd
theorem o_lss (h : St n D w0 ((d, .bool (decide (m < l))) :: F) L (WL r P ops Q rest)) : St n D w0 F L (WL r P ops Q (⟨some d, .binOp .lss t x y u, ty, pos, af, none⟩ :: rest)) :=
  o_val rfl hd (fun a w ha _ => by simp [execOp, ha.eval hx, ha.eval hy, eqGuard, binOp, Op.intCmp]) h
theorem o_leq (h : St n D w0 ((d, .bool (decide (m ≤ l))) :: F) L (WL r P ops Q rest)) : St n D w0 F L (WL r P ops Q (⟨some d, .binOp .leq t x y u, ty, pos, af, none⟩ :: rest)) :=
  o_val rfl hd (fun a w ha _ => by simp [execOp, ha.eval hx, ha.eval hy, eqGuard, binOp, Op.intCmp]) h
theorem o_gtr (h : St n D w0 ((d, .bool (decide (m > l))) :: F) L (WL r P ops Q rest)) : St n D w0 F L (WL r P ops Q (⟨some d, .binOp .gtr t x y u, ty, pos, af, none⟩ :: rest)) :=
  o_val rfl hd (fun a w ha _ => by simp [execOp, ha.eval hx, ha.eval hy, eqGuard, binOp, Op.intCmp]) h
theorem o_geq (h : St n D w0 ((d, .bool (decide (m ≥ l))) :: F) L (WL r P ops Q rest)) : St n D w0 F L (WL r P ops Q (⟨some d, .binOp .geq t x y u, ty, pos, af, none⟩ :: rest)) :=
  o_val rfl hd (fun a w ha _ => by simp [execOp, ha.eval hx, ha.eval hy, eqGuard, binOp, Op.intCmp]) h
theorem o_eql (h : St n D w0 ((d, .bool (decide (m = l))) :: F) L (WL r P ops Q rest)) : St n D w0 F L (WL r P ops Q (⟨some d, .binOp .eql t x y u, ty, pos, af, none⟩ :: rest)) :=
  o_val rfl hd (fun a w ha _ => by simp [execOp, ha.eval hx, ha.eval hy, eqGuard, binOp, Op.intCmp]; rfl) h
theorem o_neq (h : St n D w0 ((d, .bool (decide (m ≠ l))) :: F) L (WL r P ops Q rest)) : St n D w0 F L (WL r P ops Q (⟨some d, .binOp .neq t x y u, ty, pos, af, none⟩ :: rest)) :=
  o_val rfl hd (fun a w ha _ => by simp [execOp, ha.eval hx, ha.eval hy, eqGuard, binOp, Op.intCmp, bne, decide_not]; rfl) h

/-! ## arithmetic, with its wrap -/
theorem o_add_w (h : St n D w0 ((d, .int k (k.wrap (m + l))) :: F) L (WL r P ops Q rest)) : St n D w0 F L (WL r P ops Q (⟨some d, .binOp .add t x y u, ty, pos, af, none⟩ :: rest)) :=
  o_val rfl hd (fun a w ha _ => by simp [execOp, ha.eval hx, ha.eval hy, eqGuard, binOp, Op.intArith]) h
theorem o_sub_w (h : St n D w0 ((d, .int k (k.wrap (m - l))) :: F) L (WL r P ops Q rest)) : St n D w0 F L (WL r P ops Q (⟨some d, .binOp .sub t x y u, ty, pos, af, none⟩ :: rest)) :=
  o_val rfl hd (fun a w ha _ => by simp [execOp, ha.eval hx, ha.eval hy, eqGuard, binOp, Op.intArith]) h
theorem o_mul_w (h : St n D w0 ((d, .int k (k.wrap (m * l))) :: F) L (WL r P ops Q rest)) : St n D w0 F L (WL r P ops Q (⟨some d, .binOp .mul t x y u, ty, pos, af, none⟩ :: rest)) :=
  o_val rfl hd (fun a w ha _ => by simp [execOp, ha.eval hx, ha.eval hy, eqGuard, binOp, Op.intArith]) h
theorem o_quo_w (hl : l ≠ 0) (h : St n D w0 ((d, .int k (k.wrap (m.tdiv l))) :: F) L (WL r P ops Q rest)) : St n D w0 F L (WL r P ops Q (⟨some d, .binOp .quo t x y u, ty, pos, af, none⟩ :: rest)) :=
  o_val rfl hd (fun a w ha _ => by simp [execOp, ha.eval hx, ha.eval hy, eqGuard, binOp, Op.intDiv, hl]) h
theorem o_rem_w (hl : l ≠ 0) (h : St n D w0 ((d, .int k (m.tmod l)) :: F) L (WL r P ops Q rest)) : St n D w0 F L (WL r P ops Q (⟨some d, .binOp .rem t x y u, ty, pos, af, none⟩ :: rest)) :=
  o_val rfl hd (fun a w ha _ => by simp [execOp, ha.eval hx, ha.eval hy, eqGuard, binOp, Op.intDiv, hl]) h
theorem o_and_w (h : St n D w0 ((d, .int k (k.wrap ((BitVec.ofInt k.bits m &&& BitVec.ofInt k.bits l).toNat))) :: F) L (WL r P ops Q rest)) : St n D w0 F L (WL r P ops Q (⟨some d, .binOp .and t x y u, ty, pos, af, none⟩ :: rest)) :=
  o_val rfl hd (fun a w ha _ => by simp [execOp, ha.eval hx, ha.eval hy, eqGuard, binOp, Op.intBits]) h
end

theorem wrap_in {z : Int} (h1 : -9223372036854775808 ≤ z) (h2 : z ≤ 9223372036854775807) : IntKind.i64.wrap z = z := IntWalk.i64_in z ⟨h1, h2⟩
section
variable {x y : Operand} {m l : Int} {t u : TypeId} (hx : ev F x = some (.int .i64 m)) (hy : ev F y = some (.int .i64 l)) (hd : Nat.ble (d + 1) n = true)
include hx hy hd
theorem o_add (hr : -9223372036854775808 ≤ m + l ∧ m + l ≤ 9223372036854775807) (h : St n D w0 ((d, .int .i64 (m + l)) :: F) L (WL r P ops Q rest)) : St n D w0 F L (WL r P ops Q (⟨some d, .binOp .add t x y u, ty, pos, af, none⟩ :: rest)) :=
  o_add_w hx hy hd (by rw [wrap_in hr.1 hr.2]; exact h)
theorem o_sub (hr : -9223372036854775808 ≤ m - l ∧ m - l ≤ 9223372036854775807) (h : St n D w0 ((d, .int .i64 (m - l)) :: F) L (WL r P ops Q rest)) : St n D w0 F L (WL r P ops Q (⟨some d, .binOp .sub t x y u, ty, pos, af, none⟩ :: rest)) :=
  o_sub_w hx hy hd (by rw [wrap_in hr.1 hr.2]; exact h)
theorem o_mul (hr : -9223372036854775808 ≤ m * l ∧ m * l ≤ 9223372036854775807) (h : St n D w0 ((d, .int .i64 (m * l)) :: F) L (WL r P ops Q rest)) : St n D w0 F L (WL r P ops Q (⟨some d, .binOp .mul t x y u, ty, pos, af, none⟩ :: rest)) :=
  o_mul_w hx hy hd (by rw [wrap_in hr.1 hr.2]; exact h)
theorem o_quo (hr : 0 ≤ m ∧ 0 < l ∧ m ≤ 9223372036854775807) (h : St n D w0 ((d, .int .i64 (m / l)) :: F) L (WL r P ops Q rest)) : St n D w0 F L (WL r P ops Q (⟨some d, .binOp .quo t x y u, ty, pos, af, none⟩ :: rest)) :=
  o_quo_w hx hy hd (by omega) (by
    have h1 : m.tdiv l = m / l := Int.tdiv_eq_ediv_of_nonneg hr.1
    have h2 : 0 ≤ m / l := Int.ediv_nonneg hr.1 (by omega)
    have h3 : m / l ≤ m := Int.ediv_le_self l hr.1
    rw [h1, wrap_in (by omega) (by omega)]; exact h)
theorem o_rem (hr : 0 ≤ m ∧ 0 < l) (h : St n D w0 ((d, .int .i64 (m % l)) :: F) L (WL r P ops Q rest)) : St n D w0 F L (WL r P ops Q (⟨some d, .binOp .rem t x y u, ty, pos, af, none⟩ :: rest)) :=
  o_rem_w hx hy hd (by omega) (by rw [Int.tmod_eq_emod_of_nonneg hr.1]; exact h)
end
theorem o_shr {x y : Operand} {k k' : IntKind} {m l : Int} {t u : TypeId} (hx : ev F x = some (.int k m)) (hy : ev F y = some (.int k' l)) (hd : Nat.ble (d + 1) n = true) (hl : 0 ≤ l)
    (h : St n D w0 ((d, .int k (m.fdiv (2 ^ (min l.toNat k.bits)))) :: F) L (WL r P ops Q rest)) : St n D w0 F L (WL r P ops Q (⟨some d, .binOp .shr t x y u, ty, pos, af, none⟩ :: rest)) :=
  o_val rfl hd (fun a w ha _ => by
    have hl' : ¬ l < 0 := by omega
    simp [execOp, ha.eval hx, ha.eval hy, eqGuard, binOp, Op.shift, hl']) h
theorem and1_u8 (x : Int) (h : 0 ≤ x ∧ x ≤ 255) : IntKind.u8.wrap ((BitVec.ofInt IntKind.u8.bits x &&& BitVec.ofInt IntKind.u8.bits 1).toNat) = x % 2 := by
  obtain ⟨k, rfl⟩ := Int.eq_ofNat_of_zero_le h.1
  have hk : k < 256 := by omega
  have e : (BitVec.ofInt IntKind.u8.bits (k : Int) &&& BitVec.ofInt IntKind.u8.bits 1).toNat = k % 2 := by
    rw [BitVec.toNat_and]
    have e1 : (BitVec.ofInt IntKind.u8.bits (k : Int)).toNat = k := by
      show (BitVec.ofInt 8 (k : Int)).toNat = k
      simp; omega
    have e2 : (BitVec.ofInt IntKind.u8.bits 1).toNat = 1 := rfl
    rw [e1, e2, Nat.and_one_is_mod]
  rw [e]
  have : k % 2 = 0 ∨ k % 2 = 1 := by omega
  rcases this with h2 | h2 <;> rw [h2] <;> (have h3 : (k : Int) % 2 = ((k % 2 : Nat) : Int) := by omega) <;> rw [h3, h2] <;> rfl
theorem o_and1 {x y : Operand} {m : Int} {t u : TypeId} (hx : ev F x = some (.int .u8 m)) (hy : ev F y = some (.int .u8 1)) (hd : Nat.ble (d + 1) n = true) (hm : 0 ≤ m ∧ m ≤ 255)
    (h : St n D w0 ((d, .int .u8 (m % 2)) :: F) L (WL r P ops Q rest)) : St n D w0 F L (WL r P ops Q (⟨some d, .binOp .and t x y u, ty, pos, af, none⟩ :: rest)) :=
  o_and_w hx hy hd (by rw [and1_u8 m hm]; exact h)
theorem o_shr_u8 {x y : Operand} {m l : Int} {t u : TypeId} (hx : ev F x = some (.int .u8 m)) (hy : ev F y = some (.int .i64 l)) (hd : Nat.ble (d + 1) n = true) (hm : 0 ≤ m ∧ 0 ≤ l ∧ l < 8)
    (h : St n D w0 ((d, .int .u8 (m / 2 ^ l.toNat)) :: F) L (WL r P ops Q rest)) : St n D w0 F L (WL r P ops Q (⟨some d, .binOp .shr t x y u, ty, pos, af, none⟩ :: rest)) :=
  o_shr hx hy hd hm.2.1 (by
    have e : min l.toNat IntKind.u8.bits = l.toNat := by show min l.toNat 8 = l.toNat; omega
    have e2 : m.fdiv (2 ^ l.toNat) = m / 2 ^ l.toNat := Int.fdiv_eq_ediv_of_nonneg _ (Int.le_of_lt (Int.pow_pos (by decide)))
    rw [e, e2]; exact h)
theorem o_conv {x : Operand} {k k' : IntKind} {m : Int} {s t : TypeId} {ds : TypeDesc} [TU P s ds] [TU P t (.int k')] (hx : ev F x = some (.int k m)) (hd : Nat.ble (d + 1) n = true)
    (h : St n D w0 ((d, .int k' (k'.wrap m)) :: F) L (WL r P ops Q rest)) : St n D w0 F L (WL r P ops Q (⟨some d, .convert s t x, ty, pos, af, none⟩ :: rest)) :=
  o_val rfl hd (fun a w ha _ => by
    simp [execOp, ha.eval hx, convert, run_under (TU.h (P := P) (t := t)), run_under (TU.h (P := P) (t := s)), Conv.intToInt]) h
theorem run_equal_bool {b c : Bool} {t : TypeId} (hu : P.underlying t = some .bool) (w : World) : (Op.equal t (.bool b) (.bool c)).run P w = .ok (b == c) w := by
  show (Op.equalIn (9999 + 1) t _ _).run P w = _
  unfold Op.equalIn
  rw [Sem.run_bind, run_under hu]
  rfl
theorem o_eql_b {x y : Operand} {b c : Bool} {t u : TypeId} [TU P t .bool] (hx : ev F x = some (.bool b)) (hy : ev F y = some (.bool c)) (hd : Nat.ble (d + 1) n = true)
    (h : St n D w0 ((d, .bool (b == c)) :: F) L (WL r P ops Q rest)) : St n D w0 F L (WL r P ops Q (⟨some d, .binOp .eql t x y u, ty, pos, af, none⟩ :: rest)) :=
  o_val rfl hd (fun a w ha _ => by
    have h1 := run_equal_bool (P := P) (b := b) (c := c) (TU.h (P := P) (t := t)) w
    simp only [execOp, ha.eval hx, ha.eval hy, eqGuard, binOp, Sem.run_bind]
    show ((Sem.run P (Op.equal t (Value.bool b) (Value.bool c)) w).andThen fun a w' => Sem.run P (pure (Value.bool a)) w').andThen _ = _
    rw [h1]; rfl) h
theorem o_neq_b {x y : Operand} {b c : Bool} {t u : TypeId} [TU P t .bool] (hx : ev F x = some (.bool b)) (hy : ev F y = some (.bool c)) (hd : Nat.ble (d + 1) n = true)
    (h : St n D w0 ((d, .bool (b != c)) :: F) L (WL r P ops Q rest)) : St n D w0 F L (WL r P ops Q (⟨some d, .binOp .neq t x y u, ty, pos, af, none⟩ :: rest)) :=
  o_val rfl hd (fun a w ha _ => by
    have h1 := run_equal_bool (P := P) (b := b) (c := c) (TU.h (P := P) (t := t)) w
    simp only [execOp, ha.eval hx, ha.eval hy, eqGuard, binOp, Sem.run_bind]
    show ((Sem.run P (Op.equal t (Value.bool b) (Value.bool c)) w).andThen fun a w' => Sem.run P (pure (Value.bool !a)) w').andThen _ = _
    rw [h1]; rfl) h

end
end Go.Sx
