/- Texts: their bytes as lists. No program in sight. -/
import Derived.Test.YteilhjglohahoaaSxB
import Derived.Laws.Concat
import Derived.Lib.SliceRun
set_option linter.unusedVariables false
namespace Go.Sx
open Go Go.RowKit
/-- The value of a text. -/
def str (l : List UInt8) : Value := .string ⟨l.toArray⟩
theorem str_inj {a b : List UInt8} (h : str a = str b) : a = b := by
  unfold str at h
  injection h with h
  have := congrArg ByteArray.data h
  simpa using this
theorem str_of (s : ByteArray) : Value.string s = str s.data.toList := by simp [str]
theorem drop_bytes (l : List UInt8) (k : Nat) (h : k ≤ l.length) : (⟨l.toArray⟩ : ByteArray).extract k l.length = ⟨(l.drop k).toArray⟩ := by
  apply ByteArray.ext
  simp [ByteArray.data_extract, List.take_of_length_le]
theorem take_bytes (l : List UInt8) (k : Nat) (h : k ≤ l.length) : (⟨l.toArray⟩ : ByteArray).extract 0 k = ⟨(l.take k).toArray⟩ := by
  apply ByteArray.ext
  simp [ByteArray.data_extract]
theorem bytes_toList (l : List UInt8) : (⟨l.toArray⟩ : ByteArray).toList = l := by
  rw [ByteArray.toList_eq]
theorem beq_texts (a b : List UInt8) : (a == b) = decide (a = b) := by
  by_cases h : a = b <;> simp [h]
theorem str_size (l : List UInt8) : (⟨l.toArray⟩ : ByteArray).size = l.length := by
  show l.toArray.size = l.length
  simp
section
variable {r : Option Nat} {P : Program} {n : Nat} {D : List Deferred} {w0 : World} {F : List (Nat × Value)} {L : List Ent} {Q : Exit → Act → World → Prop} {ops : Array Oper}
variable {d : Tmp} {ty : TypeId} {pos : String} {af : Array Edge} {rest : List Oper}
theorem o_len_t {t : TypeId} {x : Operand} {l : List UInt8} (hU : TU P t .string) (hx : ev F x = some (str l)) (hd : Nat.ble (d + 1) n = true)
    (h : St n D w0 ((d, .int .i64 l.length) :: F) L (WL r P ops Q rest)) : St n D w0 F L (WL r P ops Q (⟨some d, .call ⟨.builtin .len, #[x], #[t]⟩, ty, pos, af, none⟩ :: rest)) :=
  o_val rfl hd (fun a w ha _ => by simp [execOp, resolve, invoke, builtin, Builtin.len_, ha.eval hx, str, run_under (TU.h (P := P) (t := t)), goInt, str_size]) h
/-- A text from a byte on. -/
theorem o_drop_t {t : TypeId} {x lo : Operand} {l : List UInt8} {kk : IntKind} {i : Int} {m : Nat} (hU : TU P t .string) (hx : ev F x = some (str l)) (hy : ev F lo = some (.int kk i)) (hm : i = (m : Int)) (hb : m ≤ l.length) (hd : Nat.ble (d + 1) n = true)
    (h : St n D w0 ((d, str (l.drop m)) :: F) L (WL r P ops Q rest)) : St n D w0 F L (WL r P ops Q (⟨some d, .slice t x (some lo) none none, ty, pos, af, none⟩ :: rest)) :=
  o_val rfl hd (fun a w ha _ => by
    subst hm
    have hsb := run_sliceBounds2 (P := P) (w := w) (isS := false) (len := l.length) (cap := l.length) (lo := some (.int kk m)) (hi := none) (l := m) (h := l.length) (.inr ⟨_, rfl⟩) (.inl ⟨rfl, rfl⟩) hb (Nat.le_refl _)
    have hsz := str_size l
    simp [execOp, ha.eval hx, ha.eval hy, str, Instr.sliceAt, Instr.slice, run_under (TU.h (P := P) (t := t)), hsz, hsb, drop_bytes l m hb]) h
/-- A text up to a byte. -/
theorem o_take_t {t : TypeId} {x hi : Operand} {l : List UInt8} {kk : IntKind} {i : Int} {m : Nat} (hU : TU P t .string) (hx : ev F x = some (str l)) (hy : ev F hi = some (.int kk i)) (hm : i = (m : Int)) (hb : m ≤ l.length) (hd : Nat.ble (d + 1) n = true)
    (h : St n D w0 ((d, str (l.take m)) :: F) L (WL r P ops Q rest)) : St n D w0 F L (WL r P ops Q (⟨some d, .slice t x none (some hi) none, ty, pos, af, none⟩ :: rest)) :=
  o_val rfl hd (fun a w ha _ => by
    subst hm
    have hsb := run_sliceBounds2 (P := P) (w := w) (isS := false) (len := l.length) (cap := l.length) (lo := none) (hi := some (.int kk m)) (l := 0) (h := m) (.inl ⟨rfl, rfl⟩) (.inr ⟨_, rfl⟩) (Nat.zero_le _) hb
    have hsz := str_size l
    simp [execOp, ha.eval hx, ha.eval hy, str, Instr.sliceAt, Instr.slice, run_under (TU.h (P := P) (t := t)), hsz, hsb, take_bytes l m hb]) h
theorem o_index_t {t : TypeId} {x y : Operand} {l : List UInt8} {kk : IntKind} {i : Int} {m : Nat} {v : UInt8} (hU : TU P t .string) (hx : ev F x = some (str l)) (hy : ev F y = some (.int kk i)) (hm : i = (m : Int)) (hv : l[m]? = some v)
    (hd : Nat.ble (d + 1) n = true) (h : St n D w0 ((d, .int .u8 v.toNat) :: F) L (WL r P ops Q rest)) : St n D w0 F L (WL r P ops Q (⟨some d, .index t x y, ty, pos, af, none⟩ :: rest)) :=
  o_val rfl hd (fun a w ha _ => by
    subst hm
    have hg : (⟨l.toArray⟩ : ByteArray)[m]? = some v := by
      have hlt := (List.getElem?_eq_some_iff.1 hv).1
      have hsz : m < (⟨l.toArray⟩ : ByteArray).size := by rw [str_size]; exact hlt
      rw [getElem?_pos (⟨l.toArray⟩ : ByteArray) m hsz]
      have := (List.getElem?_eq_some_iff.1 hv).2
      rw [← this]; rfl
    simp [execOp, ha.eval hx, ha.eval hy, str, Instr.index, asIntOf, run_under (TU.h (P := P) (t := t)), hg]) h
theorem o_eql_t {x y : Operand} {l m : List UInt8} {t u : TypeId} (hU : TU P t .string) (hx : ev F x = some (str l)) (hy : ev F y = some (str m)) (hd : Nat.ble (d + 1) n = true)
    (h : St n D w0 ((d, .bool (decide (l = m))) :: F) L (WL r P ops Q rest)) : St n D w0 F L (WL r P ops Q (⟨some d, .binOp .eql t x y u, ty, pos, af, none⟩ :: rest)) :=
  o_val rfl hd (fun a w ha _ => by
    simp [execOp, ha.eval hx, ha.eval hy, str, eqGuard, binOp, Op.stringOp, bytes_toList, beq_texts]) h
theorem o_neq_t {x y : Operand} {l m : List UInt8} {t u : TypeId} (hU : TU P t .string) (hx : ev F x = some (str l)) (hy : ev F y = some (str m)) (hd : Nat.ble (d + 1) n = true)
    (h : St n D w0 ((d, .bool (decide (l ≠ m))) :: F) L (WL r P ops Q rest)) : St n D w0 F L (WL r P ops Q (⟨some d, .binOp .neq t x y u, ty, pos, af, none⟩ :: rest)) :=
  o_val rfl hd (fun a w ha _ => by
    simp [execOp, ha.eval hx, ha.eval hy, str, eqGuard, binOp, Op.stringOp, bytes_toList, beq_texts]) h
theorem ite_min (m l : Int) : (if l < m then l else m) = min m l := by split <;> omega
theorem o_min3 {x y z : Operand} {k : IntKind} {m l p : Int} {ats : Array TypeId} (hx : ev F x = some (.int k m)) (hy : ev F y = some (.int k l)) (hz : ev F z = some (.int k p)) (hd : Nat.ble (d + 1) n = true)
    (h : St n D w0 ((d, .int k (min (min m l) p)) :: F) L (WL r P ops Q rest)) : St n D w0 F L (WL r P ops Q (⟨some d, .call ⟨.builtin .min, #[x, y, z], ats⟩, ty, pos, af, none⟩ :: rest)) :=
  o_val rfl hd (fun a w ha _ => by simp [execOp, resolve, invoke, builtin, Builtin.min_, Builtin.min2, ha.eval hx, ha.eval hy, ha.eval hz, ite_min]) h
/-- Sums of bytes. -/
theorem o_add8 {x y : Operand} {m l : Int} {t u : TypeId} (hx : ev F x = some (.int .u8 m)) (hy : ev F y = some (.int .u8 l)) (hd : Nat.ble (d + 1) n = true) (hr : 0 ≤ m + l ∧ m + l ≤ 255)
    (h : St n D w0 ((d, .int .u8 (m + l)) :: F) L (WL r P ops Q rest)) : St n D w0 F L (WL r P ops Q (⟨some d, .binOp .add t x y u, ty, pos, af, none⟩ :: rest)) :=
  o_val rfl hd (fun a w ha _ => by
    have hw : IntKind.u8.wrap (m + l) = m + l := by rw [IntKind.wrap_u8]; omega
    simp [execOp, ha.eval hx, ha.eval hy, eqGuard, binOp, Op.intArith, hw]) h
/-- Is a slice nil? -/
theorem o_eql_n {x y : Operand} {a0 : Option Addr} {m c m' c' : Nat} {t e u : TypeId} (hU : TU P t (.slice e)) (hx : ev F x = some (.slice a0 m c)) (hy : ev F y = some (.slice none m' c')) (hd : Nat.ble (d + 1) n = true)
    (h : St n D w0 ((d, .bool a0.isNone) :: F) L (WL r P ops Q rest)) : St n D w0 F L (WL r P ops Q (⟨some d, .binOp .eql t x y u, ty, pos, af, none⟩ :: rest)) :=
  o_val rfl hd (fun a w ha _ => by
    have h1 := Lib.run_eql_slice_nil (P := P) w t e a0 m c m' c' (TU.h (P := P) (t := t))
    simp [execOp, ha.eval hx, ha.eval hy, eqGuard, h1]) h
/-- The address of an array's element, its number known. -/
theorem o_idxA {t e : TypeId} {k len m : Nat} {x y : Operand} {b off : Nat} {kk : IntKind} {i : Int} (hU : TU P t (.array len e)) (hS : TS P e k) (hx : ev F x = some (.pointer (some ⟨b, off, none⟩))) (hy : ev F y = some (.int kk i)) (hm : i = (m : Int)) (hd : Nat.ble (d + 1) n = true)
    (hi : m < len) (h : St n D w0 ((d, .pointer (some ⟨b, off + m * k, none⟩)) :: F) L (WL r P ops Q rest)) : St n D w0 F L (WL r P ops Q (⟨some d, .indexAddr t x y, ty, pos, af, none⟩ :: rest)) :=
  o_val rfl hd (fun a w ha _ => by
    subst hm
    simp [execOp, ha.eval hx, ha.eval hy, Instr.indexAt, asIntOf, run_under (TU.h (P := P) (t := t)), hi, TS.h (P := P) (t := e), add_none, Instr.sureAddr]) h
/-- Two texts, one after the other. -/
theorem o_cat_t {x y : Operand} {l m : List UInt8} {t u : TypeId} (hU : TU P t .string) (hx : ev F x = some (str l)) (hy : ev F y = some (str m)) (hb : l.length + m.length ≤ 9223372036854775807) (hd : Nat.ble (d + 1) n = true)
    (h : St n D w0 ((d, str (l ++ m)) :: F) L (WL r P ops Q rest)) : St n D w0 F L (WL r P ops Q (⟨some d, .binOp .add t x y u, ty, pos, af, none⟩ :: rest)) :=
  o_val rfl hd (fun a w ha _ => by
    have h1 := run_string_add_sum (P := P) (w := w) ⟨l.toArray⟩ ⟨m.toArray⟩ (by rw [str_size, str_size]; exact hb)
    have h2 : (⟨l.toArray⟩ : ByteArray) ++ ⟨m.toArray⟩ = ⟨(l ++ m).toArray⟩ := by apply ByteArray.ext; simp
    rw [h2] at h1
    simp [execOp, ha.eval hx, ha.eval hy, str, eqGuard, binOp, h1]) h
end
end Go.Sx
