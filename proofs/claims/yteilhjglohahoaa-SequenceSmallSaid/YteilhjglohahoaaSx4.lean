/- The rules of memory: addresses, loads, stores, structs built and compared, lengths. No program in sight. -/
import Derived.Test.YteilhjglohahoaaSx3
set_option linter.unusedVariables false
namespace Go.Sx
open Go Go.RowKit

/-- A block of cells that a call has made. -/
@[reducible] def Ce (l : List Value) (e : TypeId) : Obj := .cells l.toArray e (0, 0)

section
variable {r : Option Nat} {P : Program} {n : Nat} {D : List Deferred} {w0 : World} {F : List (Nat × Value)} {L : List Ent} {Q : Exit → Act → World → Prop} {ops : Array Oper}
variable {d : Tmp} {ty : TypeId} {pos : String} {af : Array Edge} {rest : List Oper}

theorem Rep.turn {w w' : World} {L' : List Ent} (h : Rep w0 w L) {b : Nat} {o o' : Obj} (hu : Upd L b o o' L') (h1 : w'.os = w.os) (h2 : w'.tape = w.tape) (h3 : w'.output = w.output) (h4 : w'.heap.size = w.heap.size)
    (h5 : w'.heap[b]? = some o') (h6 : ∀ k : Nat, k ≠ b → w'.heap[k]? = w.heap[k]?) : Rep w0 w' L' := by
  have hs := h.upd hu
  have heq : ∀ k : Nat, w'.heap[k]? = (setBlk w b o').heap[k]? := by
    intro k
    by_cases e : k = b
    · subst e
      rw [h5, setBlk_same (h.at hu.at)]
    · rw [h6 k e, setBlk_other (Ne.symm e)]
  exact ⟨h1.trans h.os, h2.trans h.tape, h3.trans h.output, by rw [h4]; exact h.size, fun x hx => by rw [heq]; exact hs.ok x hx, hs.own, hs.nd, fun b hb hx => by rw [heq]; exact hs.frame b hb hx⟩

/-! ## new blocks -/
theorem o_alloc {e : TypeId} {z : Value} {l : List Value} [TZ P e z l] (hd : Nat.ble (d + 1) n = true)
    (h : ∀ b, St n D w0 ((d, .pointer (some ⟨b, 0, none⟩)) :: F) (⟨b, Ce l e, true⟩ :: L) (WL r P ops Q rest)) :
    St n D w0 F L (WL r P ops Q (⟨some d, .alloc e, ty, pos, af, none⟩ :: rest)) :=
  o_plain rfl rfl fun a w ha hw => by
    have hr : (execOp a.eval ⟨some d, .alloc e, ty, pos, af, none⟩).run P w = .ok (.value (.pointer (some ⟨w.heap.size, 0, none⟩))) (w.alloc (Ce l e)) := by
      simp [execOp, Instr.alloc, TZ.h (P := P) (t := e), newVar, newRow, TZ.hc (P := P) (t := e)]
    rw [hr]
    exact h _ _ _ (ha.put (Nat.le_of_ble_eq_true hd) _) (hw.alloc _)
theorem o_box {e : TypeId} {x : Operand} {v : Value} {l : List Value} (hx : ev F x = some v) (hv : v.cells = l.toArray) (hd : Nat.ble (d + 1) n = true)
    (h : ∀ b, St n D w0 ((d, .pointer (some ⟨b, 0, none⟩)) :: F) (⟨b, Ce l e, true⟩ :: L) (WL r P ops Q rest)) :
    St n D w0 F L (WL r P ops Q (⟨some d, .box e x, ty, pos, af, none⟩ :: rest)) :=
  o_plain rfl rfl fun a w ha hw => by
    have hr : (execOp a.eval ⟨some d, .box e x, ty, pos, af, none⟩).run P w = .ok (.value (.pointer (some ⟨w.heap.size, 0, none⟩))) (w.alloc (Ce l e)) := by
      simp [execOp, Instr.box, ha.eval hx, newVar, newRow, hv]
    rw [hr]
    exact h _ _ _ (ha.put (Nat.le_of_ble_eq_true hd) _) (hw.alloc _)

/-! ## addresses -/
theorem add_none (b off k : Nat) : (⟨b, off, none⟩ : Addr).add k = ⟨b, off + k, none⟩ := by
  unfold Addr.add; split <;> simp_all

class TF (P : Program) (s : TypeId) (i : Nat) (o : outParam Nat) : Prop where
  h : ∀ b off w, (Instr.fieldAt s (.pointer (some ⟨b, off, none⟩)) i).run P w = .ok (.pointer (some ⟨b, off + o, none⟩)) w
theorem TF.mk' {s : TypeId} {i o k : Nat} {fs : Array Field} {f : Field} (hu : P.underlying s = some (.struct fs)) (hf : fs[i]? = some f) (ho : f.offset = o) (hs : ∀ w, (sizeOf f.type).run P w = .ok (k + 1) w) : TF P s i o :=
  ⟨fun b off w => by simp [Instr.fieldAt, run_under hu, hf, Instr.sureAddr, fieldPlace, hs, ho, add_none]⟩

theorem o_faddr0 {s : TypeId} {x : Operand} {i o b : Nat} [TF P s i o] (hx : ev F x = some (.pointer (some ⟨b, 0, none⟩))) (hd : Nat.ble (d + 1) n = true)
    (h : St n D w0 ((d, .pointer (some ⟨b, o, none⟩)) :: F) L (WL r P ops Q rest)) : St n D w0 F L (WL r P ops Q (⟨some d, .fieldAddr s x i, ty, pos, af, none⟩ :: rest)) :=
  o_val rfl hd (fun a w ha _ => by simp [execOp, ha.eval hx, TF.h (P := P) (s := s) (i := i)]) h
theorem o_faddr {s : TypeId} {x : Operand} {i o b off : Nat} [TF P s i o] (hx : ev F x = some (.pointer (some ⟨b, off, none⟩))) (hd : Nat.ble (d + 1) n = true)
    (h : St n D w0 ((d, .pointer (some ⟨b, off + o, none⟩)) :: F) L (WL r P ops Q rest)) : St n D w0 F L (WL r P ops Q (⟨some d, .fieldAddr s x i, ty, pos, af, none⟩ :: rest)) :=
  o_val rfl hd (fun a w ha _ => by simp [execOp, ha.eval hx, TF.h (P := P) (s := s) (i := i)]) h
theorem o_nilCheck {x : Operand} {p : Addr} (hx : ev F x = some (.pointer (some p))) (hd : Nat.ble (d + 1) n = true)
    (h : St n D w0 ((d, .pointer (some p)) :: F) L (WL r P ops Q rest)) : St n D w0 F L (WL r P ops Q (⟨some d, .nilCheck x, ty, pos, af, none⟩ :: rest)) :=
  o_val rfl hd (fun a w ha _ => by simp [execOp, ha.eval hx]) h
theorem o_nilCheckF {x : Operand} {f : FuncId} {c1 c2 : Array Value} (hx : ev F x = some (.func (.func f) c1 c2)) (hd : Nat.ble (d + 1) n = true)
    (h : St n D w0 ((d, .func (.func f) c1 c2) :: F) L (WL r P ops Q rest)) : St n D w0 F L (WL r P ops Q (⟨some d, .nilCheck x, ty, pos, af, none⟩ :: rest)) :=
  o_val rfl hd (fun a w ha _ => by simp [execOp, ha.eval hx]) h
/-- The address of a slice's element. -/
theorem o_iaddr {t e : TypeId} {k : Nat} {x y : Operand} {b off len cap : Nat} {kk : IntKind} {i : Int} [TU P t (.slice e)] [TS P e k] (hx : ev F x = some (.slice (some ⟨b, off, none⟩) len cap)) (hy : ev F y = some (.int kk i)) (hd : Nat.ble (d + 1) n = true)
    (hi : 0 ≤ i ∧ i < len) (h : St n D w0 ((d, .pointer (some ⟨b, off + i.toNat * k, none⟩)) :: F) L (WL r P ops Q rest)) : St n D w0 F L (WL r P ops Q (⟨some d, .indexAddr t x y, ty, pos, af, none⟩ :: rest)) :=
  o_val rfl hd (fun a w ha _ => by
    simp [execOp, ha.eval hx, ha.eval hy, Instr.indexAt, asIntOf, run_under (TU.h (P := P) (t := t)), hi, TS.h (P := P) (t := e), add_none]) h
/-- The address of an array's element. -/
theorem o_iaddrA {t e : TypeId} {k len : Nat} {x y : Operand} {b off : Nat} {kk : IntKind} {i : Int} [TU P t (.array len e)] [TS P e k] (hx : ev F x = some (.pointer (some ⟨b, off, none⟩))) (hy : ev F y = some (.int kk i)) (hd : Nat.ble (d + 1) n = true)
    (hi : 0 ≤ i ∧ i < len) (h : St n D w0 ((d, .pointer (some ⟨b, off + i.toNat * k, none⟩)) :: F) L (WL r P ops Q rest)) : St n D w0 F L (WL r P ops Q (⟨some d, .indexAddr t x y, ty, pos, af, none⟩ :: rest)) :=
  o_val rfl hd (fun a w ha _ => by
    simp [execOp, ha.eval hx, ha.eval hy, Instr.indexAt, asIntOf, run_under (TU.h (P := P) (t := t)), hi, TS.h (P := P) (t := e), add_none, Instr.sureAddr]) h

/-! ## parts of a value -/
theorem o_index_agg {t e : TypeId} {k len : Nat} {x y : Operand} {cs : Array Value} {kk : IntKind} {i : Int} {v : Array Value} [TU P t (.array len e)] [TA P e true] [TS P e k] (hx : ev F x = some (.agg cs)) (hy : ev F y = some (.int kk i))
    (hd : Nat.ble (d + 1) n = true) (hi : 0 ≤ i ∧ i < len) (hv : cs.extract (i.toNat * k) (i.toNat * k + k) = v)
    (h : St n D w0 ((d, .agg v) :: F) L (WL r P ops Q rest)) : St n D w0 F L (WL r P ops Q (⟨some d, .index t x y, ty, pos, af, none⟩ :: rest)) :=
  o_val rfl hd (fun a w ha _ => by
    subst hv
    simp [execOp, ha.eval hx, ha.eval hy, Instr.index, asIntOf, run_under (TU.h (P := P) (t := t)), hi, TS.h (P := P) (t := e), part, TA.h (P := P) (t := e)]) h
theorem o_index_one {t e : TypeId} {len : Nat} {x y : Operand} {cs : Array Value} {kk : IntKind} {i : Int} {v : Value} [TU P t (.array len e)] [TA P e false] [TS P e 1] (hx : ev F x = some (.agg cs)) (hy : ev F y = some (.int kk i))
    (hd : Nat.ble (d + 1) n = true) (hi : 0 ≤ i ∧ i < len) (hv : cs[i.toNat]? = some v)
    (h : St n D w0 ((d, v) :: F) L (WL r P ops Q rest)) : St n D w0 F L (WL r P ops Q (⟨some d, .index t x y, ty, pos, af, none⟩ :: rest)) :=
  o_val rfl hd (fun a w ha _ => by
    simp [execOp, ha.eval hx, ha.eval hy, Instr.index, asIntOf, run_under (TU.h (P := P) (t := t)), hi, TS.h (P := P) (t := e), part, TA.h (P := P) (t := e), hv]) h
theorem o_index_str {t : TypeId} {x y : Operand} {s : ByteArray} {kk : IntKind} {i : Int} {v : UInt8} [TU P t .string] (hx : ev F x = some (.string s)) (hy : ev F y = some (.int kk i))
    (hd : Nat.ble (d + 1) n = true) (hi : 0 ≤ i) (hv : s[i.toNat]? = some v)
    (h : St n D w0 ((d, .int .u8 v.toNat) :: F) L (WL r P ops Q rest)) : St n D w0 F L (WL r P ops Q (⟨some d, .index t x y, ty, pos, af, none⟩ :: rest)) :=
  o_val rfl hd (fun a w ha _ => by
    simp [execOp, ha.eval hx, ha.eval hy, Instr.index, asIntOf, run_under (TU.h (P := P) (t := t)), hi, hv]) h
/-- A field of a struct's value. -/
class TFV (P : Program) (s : TypeId) (i : Nat) (o : outParam Nat) (k : outParam Nat) (agg : outParam Bool) : Prop where
  h : ∀ cs w, (Instr.field s (.agg cs) i).run P w = (if agg then .ok (.agg (cs.extract o (o + k))) w else (match cs[o]? with | some v => .ok v w | none => .halt (.stuck "part: no such cell") w))
theorem TFV.mk' {s : TypeId} {i o k : Nat} {agg : Bool} {fs : Array Field} {f : Field} (hu : P.underlying s = some (.struct fs)) (hf : fs[i]? = some f) (ho : f.offset = o) (hs : ∀ w, (sizeOf f.type).run P w = .ok k w)
    (ha : ∀ w, (isAgg f.type).run P w = .ok agg w) : TFV P s i o k agg :=
  ⟨fun cs w => by
    cases agg
    · simp only [Instr.field, Sem.run_bind, run_under hu, Result.andThen_ok, hf, asAgg, part, Sem.run_pure, ha, ho]
      cases cs[o]? <;> simp
    · simp [Instr.field, run_under hu, hf, asAgg, part, ha, ho, hs]⟩
theorem o_field1 {s : TypeId} {x : Operand} {i o k : Nat} {cs : Array Value} {v : Value} [TFV P s i o k false] (hx : ev F x = some (.agg cs)) (hv : cs[o]? = some v) (hd : Nat.ble (d + 1) n = true)
    (h : St n D w0 ((d, v) :: F) L (WL r P ops Q rest)) : St n D w0 F L (WL r P ops Q (⟨some d, .field s x i, ty, pos, af, none⟩ :: rest)) :=
  o_val rfl hd (fun a w ha _ => by simp [execOp, ha.eval hx, TFV.h (P := P) (s := s) (i := i) (k := k) (agg := false), hv]) h

/-! ## loads -/
inductive Nth : List Value → Nat → Value → Prop
  | z {v : Value} {l : List Value} : Nth (v :: l) 0 v
  | s {a v : Value} {l : List Value} {i : Nat} : Nth l i v → Nth (a :: l) (i + 1) v
theorem Nth.eq {l : List Value} {i : Nat} {v : Value} (h : Nth l i v) : l[i]? = some v := by
  induction h with
  | z => rfl
  | s _ ih => simpa using ih
theorem o_load1 {t e : TypeId} {x : Operand} {b off : Nat} {c : Array Value} {fz : Nat × Nat} {v : Value} [TA P t false] (hx : ev F x = some (.pointer (some ⟨b, off, none⟩))) (hk : Kn w0 L b (.cells c e fz)) (hv : c[off]? = some v)
    (hd : Nat.ble (d + 1) n = true) (h : St n D w0 ((d, v) :: F) L (WL r P ops Q rest)) : St n D w0 F L (WL r P ops Q (⟨some d, .load t x, ty, pos, af, none⟩ :: rest)) :=
  o_val rfl hd (fun a w ha hw => by
    have hc : w.cell? ⟨b, off, none⟩ = some v := by simp [World.cell?, hk w hw, hv]
    simp [execOp, ha.eval hx, Instr.loadAt, Instr.sureAddr, loadVar, TA.h (P := P) (t := t), hc]) h
theorem o_load {t e : TypeId} {x : Operand} {b off : Nat} {l : List Value} {fz : Nat × Nat} {v : Value} (hA : TA P t false) (hx : ev F x = some (.pointer (some ⟨b, off, none⟩))) (hk : Kn w0 L b (.cells l.toArray e fz)) (hv : Nth l off v)
    (hd : Nat.ble (d + 1) n = true) (h : St n D w0 ((d, v) :: F) L (WL r P ops Q rest)) : St n D w0 F L (WL r P ops Q (⟨some d, .load t x, ty, pos, af, none⟩ :: rest)) :=
  o_load1 hx hk (by simpa using hv.eq) hd h
theorem o_loadN {t e : TypeId} {k : Nat} {x : Operand} {b off : Nat} {c : Array Value} {fz : Nat × Nat} {l : List Value} [TA P t true] [TS P t k] (hx : ev F x = some (.pointer (some ⟨b, off, none⟩))) (hk : Kn w0 L b (.cells c e fz))
    (hl : l.length = k) (hv : ∀ j v, l[j]? = some v → c[off + j]? = some v)
    (hd : Nat.ble (d + 1) n = true) (h : St n D w0 ((d, .agg l.toArray) :: F) L (WL r P ops Q rest)) : St n D w0 F L (WL r P ops Q (⟨some d, .load t x, ty, pos, af, none⟩ :: rest)) :=
  o_val rfl hd (fun a w ha hw => by
    subst hl
    have hc := run_loadCells_list (P := P) w ⟨b, off, none⟩ l (fun j v hj => by rw [add_none]; simp [World.cell?, hk w hw, hv j v hj])
    simp [execOp, ha.eval hx, Instr.loadAt, Instr.sureAddr, loadVar, TA.h (P := P) (t := t), TS.h (P := P) (t := t), hc]) h
theorem o_loadAll {t e : TypeId} {k : Nat} {x : Operand} {b : Nat} {l : List Value} {fz : Nat × Nat} (hA : TA P t true) (hS : TS P t k) (hx : ev F x = some (.pointer (some ⟨b, 0, none⟩))) (hk : Kn w0 L b (.cells l.toArray e fz))
    (hl : l.length = k) (hd : Nat.ble (d + 1) n = true) (h : St n D w0 ((d, .agg l.toArray) :: F) L (WL r P ops Q rest)) : St n D w0 F L (WL r P ops Q (⟨some d, .load t x, ty, pos, af, none⟩ :: rest)) :=
  o_loadN hx hk hl (fun j v hj => by simpa using hj) hd h

/-! ## stores -/
/-- l' is l with vs laid at place i. -/
inductive LPut : List Value → Nat → List Value → List Value → Prop
  | done {l : List Value} : LPut l 0 [] l
  | put {a v : Value} {l vs l' : List Value} : LPut l 0 vs l' → LPut (a :: l) 0 (v :: vs) (v :: l')
  | skip {a : Value} {l vs l' : List Value} {i : Nat} : LPut l i vs l' → LPut (a :: l) (i + 1) vs (a :: l')
theorem LPut.eq {l vs l' : List Value} {i : Nat} (h : LPut l i vs l') : i + vs.length ≤ l.length ∧ l' = l.take i ++ vs ++ l.drop (i + vs.length) := by
  induction h with
  | done => simp
  | put _ ih =>
    obtain ⟨h1, h2⟩ := ih
    refine ⟨by simp at h1 ⊢; omega, ?_⟩
    simp at h2 ⊢; exact h2
  | @skip a l vs l' i _ ih =>
    obtain ⟨h1, h2⟩ := ih
    refine ⟨by simp; omega, ?_⟩
    rw [show i + 1 + vs.length = (i + vs.length) + 1 from by omega]
    simp at h2 ⊢; exact h2

theorem run_storeVar {t e : TypeId} {b off : Nat} {v : Value} {l l' vs : List Value} {w : World} (hs : (sizeOf t).run P w = .ok vs.length w) (hvs : v.cells = vs.toArray) (hb : w.heap[b]? = some (Ce l e)) (h1 : ∀ u ∈ vs, u.oneCell' = true)
    (hl : off + vs.length ≤ l.length) (hl' : l' = l.take off ++ vs ++ l.drop (off + vs.length)) :
    (storeVar t ⟨b, off, none⟩ v).run P w = .ok () (w.setRow b l'.toArray) := by
  have hst := run_storeCells_at (P := P) b off e vs 0 l.toArray w hb (by simp; omega) h1
  subst hl'
  simp only [Nat.add_zero] at hst
  simp [storeVar, hs, hvs, hst]

theorem o_storeG {t e : TypeId} {k : Nat} {x y : Operand} {b off : Nat} {v : Value} {l l' vs : List Value} {L' : List Ent} [TS P t k] (hx : ev F x = some (.pointer (some ⟨b, off, none⟩))) (hy : ev F y = some v) (hvs : v.cells = vs.toArray) (hk : vs.length = k)
    (h1 : ∀ u ∈ vs, u.oneCell' = true) (hl : off + vs.length ≤ l.length) (hl' : l' = l.take off ++ vs ++ l.drop (off + vs.length)) (hu : Upd L b (Ce l e) (Ce l' e) L') (h : St n D w0 F L' (WL r P ops Q rest)) :
    St n D w0 F L (WL r P ops Q (⟨none, .store t x y, ty, pos, af, none⟩ :: rest)) :=
  o_plain rfl rfl fun a w ha hw => by
    subst hk
    have hb := hw.at hu.at
    have hst := run_storeVar (P := P) (t := t) (TS.h w) hvs hb h1 hl hl'
    have hr : (execOp a.eval ⟨none, .store t x y, ty, pos, af, none⟩).run P w = .ok .skip (w.setRow b l'.toArray) := by
      simp [execOp, ha.eval hx, ha.eval hy, Instr.storeAt, Instr.sureAddr, hst]
    rw [hr]
    exact h _ _ (ha.put_none _) (hw.turn hu rfl rfl rfl (by simp) (setRow_heap w b _ _ e _ hb) (fun k hk => setRow_other w b k _ hk))
theorem o_store1 {t e : TypeId} {x y : Operand} {b off : Nat} {v : Value} {l l' : List Value} {L' : List Ent} (hS : TS P t 1) (hx : ev F x = some (.pointer (some ⟨b, off, none⟩))) (hy : ev F y = some v) (h1 : v.oneCell' = true)
    (hat : At L b (Ce l e)) (hp : LPut l off [v] l') (hu : Upd L b (Ce l e) (Ce l' e) L') (h : St n D w0 F L' (WL r P ops Q rest)) :
    St n D w0 F L (WL r P ops Q (⟨none, .store t x y, ty, pos, af, none⟩ :: rest)) :=
  o_storeG (k := 1) (vs := [v]) hx hy (by cases v <;> first | rfl | simp [Value.oneCell'] at h1) rfl (by simpa using h1) hp.eq.1 hp.eq.2 hu h
theorem o_storeA {t e : TypeId} {k : Nat} {x y : Operand} {b off : Nat} {vs l l' : List Value} {L' : List Ent} (hS : TS P t k) (hx : ev F x = some (.pointer (some ⟨b, off, none⟩))) (hy : ev F y = some (.agg vs.toArray)) (hk : vs.length = k)
    (h1 : vs.all (·.oneCell') = true) (hat : At L b (Ce l e)) (hp : LPut l off vs l') (hu : Upd L b (Ce l e) (Ce l' e) L') (h : St n D w0 F L' (WL r P ops Q rest)) :
    St n D w0 F L (WL r P ops Q (⟨none, .store t x y, ty, pos, af, none⟩ :: rest)) :=
  o_storeG hx hy rfl hk (by simpa using h1) hp.eq.1 hp.eq.2 hu h
end
end Go.Sx
