/- The rules of structs and slices built, of lengths, of a function's end. No program in sight. -/
import Derived.Test.YteilhjglohahoaaSx4
namespace Go.Sx
open Go Go.RowKit

section
variable {r : Option Nat} {P : Program} {n : Nat} {D : List Deferred} {w0 : World} {F : List (Nat × Value)} {L : List Ent} {Q : Exit → Act → World → Prop} {ops : Array Oper}
variable {d : Tmp} {ty : TypeId} {pos : String} {af : Array Edge} {rest : List Oper}

/-! ## structs and arrays built -/
inductive Parts (F : List (Nat × Value)) : List (Nat × Operand) → List (Nat × Value) → Prop
  | nil : Parts F [] []
  | cons {i : Nat} {x : Operand} {v : Value} {xs : List (Nat × Operand)} {vs : List (Nat × Value)} : ev F x = some v → Parts F xs vs → Parts F ((i, x) :: xs) ((i, v) :: vs)
theorem Parts.map {a : Act} (ha : Fr n D F a) {xs : List (Nat × Operand)} {vs : List (Nat × Value)} (h : Parts F xs vs) : xs.map (fun x => (x.1, a.eval x.2)) = vs := by
  induction h with
  | nil => rfl
  | cons hx _ ih => simp [ha.eval hx, ih]

inductive Fill (pl : Nat → Option (Nat × Nat)) : List Value → List (Nat × Value) → List Value → Prop
  | nil {l : List Value} : Fill pl l [] l
  | cons {i off k : Nat} {v : Value} {vs l l1 l2 : List Value} {r : List (Nat × Value)} : pl i = some (off, k) → v.cells = vs.toArray → vs.length = k → LPut l off vs l1 → Fill pl l1 r l2 → Fill pl l ((i, v) :: r) l2

theorem foldl_set : ∀ (vs : List Value) (off j : Nat) (cs : Array Value), off + j + vs.length ≤ cs.size →
    ((vs.zipIdx j).foldl (fun (cs : Array Value) x => cs.setIfInBounds (off + x.2) x.1) cs).toList = cs.toList.take (off + j) ++ vs ++ cs.toList.drop (off + j + vs.length)
  | [], off, j, cs, _ => by simp
  | v :: vs, off, j, cs, h => by
    simp only [List.zipIdx_cons, List.foldl_cons]
    have hl : off + j < cs.toList.length := by simp at h ⊢; omega
    rw [foldl_set vs off (j + 1) _ (by simp at h ⊢; omega)]
    rw [Array.toList_setIfInBounds]
    apply List.ext_getElem?
    intro q
    simp only [List.getElem?_append, List.getElem?_take, List.getElem?_drop, List.getElem?_set, List.length_append, List.length_take, List.length_set, List.length_cons]
    have e1 : min (off + (j + 1)) cs.toList.length = off + j + 1 := by omega
    have e2 : min (off + j) cs.toList.length = off + j := by omega
    rw [e1, e2]
    by_cases h1 : q < off + j
    · have : q < off + j + 1 := by omega
      simp [h1, show q < off + (j + 1) from by omega, show q < off + j + 1 + vs.length from by omega, show q < off + j + (vs.length + 1) from by omega, show ¬ off + j = q from by omega, this]
    · by_cases h2 : q = off + j
      · subst h2
        have hl' : off + j < cs.size := by simpa using hl
        simp [show off + j < off + (j + 1) from by omega, show off + j < off + j + 1 + vs.length from by omega, hl']
      · by_cases h3 : q < off + j + (vs.length + 1)
        · have h4 : q - (off + j) = (q - (off + j + 1)) + 1 := by omega
          simp [h1, show ¬ q < off + j + 1 from by omega, show q < off + j + 1 + vs.length from by omega, h3, h4]
        · have h5 : off + (j + 1) + vs.length = off + j + (vs.length + 1) := by omega
          simp [h3, h5, show off + j + 1 + vs.length = off + j + (vs.length + 1) from by omega, show ¬ off + j = off + j + (vs.length + 1) + (q - (off + j + (vs.length + 1))) from by omega]

theorem Fill.eq {pl : Nat → Option (Nat × Nat)} {l l' : List Value} {r : List (Nat × Value)} (h : Fill pl l r l') : Instr.fill pl l.toArray r = some l'.toArray := by
  induction h with
  | nil => rfl
  | @cons i off k v vs l l1 l2 r hp hv hk hput _ ih =>
    obtain ⟨h1, h2⟩ := hput.eq
    have hfold := foldl_set vs off 0 l.toArray (by simpa using h1)
    have hf2 : (Array.foldl (fun (cs : Array Value) x => cs.setIfInBounds (off + x.2) x.1) l.toArray v.cells.zipIdx) = l1.toArray := by
      rw [hv, ← Array.foldl_toList]
      apply Array.ext'
      have e1 : (vs.toArray.zipIdx).toList = vs.zipIdx := by simp
      rw [e1, hfold, h2]
      simp
    subst hk
    have hc : ¬ (v.cells.size ≠ vs.length ∨ off + v.cells.size > l.toArray.size) := by
      rw [hv]; simp; omega
    simp only [Instr.fill, hp]
    rw [if_neg (by simpa using hc)]
    rw [show (fun (cs : Array Value) (x : Value × Nat) => match x with | (c, j) => cs.setIfInBounds (off + j) c) = (fun (cs : Array Value) x => cs.setIfInBounds (off + x.2) x.1) from rfl, hf2]
    exact ih

/-- Where the fields of a struct lie. -/
class TPl (P : Program) (t : TypeId) (pl : outParam (List (Nat × Nat))) : Prop where
  h : ∃ fs : Array Field, P.underlying t = some (.struct fs) ∧ ∀ w, (fs.mapM (m := Sem) fun f => do pure (f.offset, ← sizeOf f.type)).run P w = .ok pl.toArray w

theorem o_build {t : TypeId} {pl : List (Nat × Nat)} {xs : List (Nat × Operand)} {vs : List (Nat × Value)} {z : Value} {zl out : List Value} (hP : TPl P t pl) (hZ : TZ P t z zl) (hxs : Parts F xs vs)
    (hf : Fill (fun i : Nat => pl[i]?) zl vs out) (hd : Nat.ble (d + 1) n = true) (h : St n D w0 ((d, .agg out.toArray) :: F) L (WL r P ops Q rest)) :
    St n D w0 F L (WL r P ops Q (⟨some d, .build t xs.toArray, ty, pos, af, none⟩ :: rest)) :=
  o_val rfl hd (fun a w ha _ => by
    obtain ⟨fs, hu, hm⟩ := TPl.h (P := P) (t := t) (pl := pl)
    have hxs' := hxs.map ha
    have e1 : xs.toArray.map (fun x => match x with | (i, x) => (i, a.eval x)) = vs.toArray := by rw [← hxs']; simp
    have hfe := hf.eq
    have e2 : (fun i : Nat => pl.toArray[i]?) = (fun i : Nat => pl[i]?) := by funext i; simp
    simp only [execOp, e1, Instr.build, Sem.run_bind, TZ.h (P := P) (t := t), Result.andThen_ok, run_under hu, hm, TZ.hc (P := P) (t := t)]
    rw [show (fun x : Nat => pl.toArray[x]?) = (fun i : Nat => pl[i]?) from e2]
    rw [hfe]
    rfl) h
theorem o_buildA {t e : TypeId} {len k : Nat} {xs : List (Nat × Operand)} {vs : List (Nat × Value)} {z : Value} {zl out : List Value} (hU : TU P t (.array len e)) (hS : TS P e k) (hZ : TZ P t z zl) (hxs : Parts F xs vs)
    (hf : Fill (fun i => some (i * k, k)) zl vs out) (hd : Nat.ble (d + 1) n = true) (h : St n D w0 ((d, .agg out.toArray) :: F) L (WL r P ops Q rest)) :
    St n D w0 F L (WL r P ops Q (⟨some d, .build t xs.toArray, ty, pos, af, none⟩ :: rest)) :=
  o_val rfl hd (fun a w ha _ => by
    have hxs' := hxs.map ha
    have e1 : xs.toArray.map (fun x => match x with | (i, x) => (i, a.eval x)) = vs.toArray := by rw [← hxs']; simp
    have hfe := hf.eq
    simp only [execOp, e1, Instr.build, Sem.run_bind, TZ.h (P := P) (t := t), Result.andThen_ok, run_under (TU.h (P := P) (t := t)), TS.h (P := P) (t := e), TZ.hc (P := P) (t := t)]
    rw [hfe]
    rfl) h

/-! ## structs compared -/
/-- Fields of one cell each, by their descriptions. -/
def Flat (P : Program) : Nat → List Field → List TypeDesc → Prop
  | _, [], [] => True
  | k, f :: fs, d :: ds => (f.name == "_") = false ∧ f.offset = k ∧ (∀ w, (isAgg f.type).run P w = .ok false w) ∧ P.underlying f.type = some d ∧ Flat P (k + 1) fs ds
  | _, _, _ => False
class TQ (P : Program) (t : TypeId) (ds : outParam (List TypeDesc)) : Prop where
  h : ∃ fs : Array Field, P.underlying t = some (.struct fs) ∧ P.stoodInHeld t = false ∧ P.eqGuardType P.depth t = false ∧ Flat P 0 fs.toList ds
inductive EqP : List TypeDesc → List Value → List Value → Prop → Prop
  | nil : EqP [] [] [] True
  | int1 {k k' : IntKind} {a c : Int} : EqP [.int k'] [.int k a] [.int k c] (a = c)
  | int {k k' : IntKind} {a c : Int} {ds : List TypeDesc} {xs ys : List Value} {p : Prop} : EqP ds xs ys p → EqP (.int k' :: ds) (.int k a :: xs) (.int k c :: ys) (a = c ∧ p)
  | bool1 {a c : Bool} : EqP [.bool] [.bool a] [.bool c] (a = c)
  | bool {a c : Bool} {ds : List TypeDesc} {xs ys : List Value} {p : Prop} : EqP ds xs ys p → EqP (.bool :: ds) (.bool a :: xs) (.bool c :: ys) (a = c ∧ p)
/-- The last test of a comparison, or one with others behind it. -/
theorem EqP.one {d : TypeDesc} {ds : List TypeDesc} {u v : Value} {xs ys : List Value} {p : Prop} (h : EqP (d :: ds) (u :: xs) (v :: ys) p) :
    ∃ (a : Bool) (q p' : Prop), (a = true ↔ q) ∧ (p ↔ q ∧ p') ∧ EqP ds xs ys p' ∧ ∀ (P : Program) (fuel : Nat) (t : TypeId) (w : World), P.underlying t = some d → (Op.equalIn (fuel + 1) t u v).run P w = .ok a w := by
  cases h with
  | @int1 k k' a c => exact ⟨a == c, a = c, True, by simp, by simp, .nil, fun P fuel t w hu => run_equalIn_int w fuel t k k' a c hu⟩
  | @int k k' a c ds xs ys p' h' => exact ⟨a == c, a = c, p', by simp, Iff.rfl, h', fun P fuel t w hu => run_equalIn_int w fuel t k k' a c hu⟩
  | @bool1 a c => exact ⟨a == c, a = c, True, by simp, by simp, .nil, fun P fuel t w hu => run_equalIn_bool w fuel t a c hu⟩
  | @bool a c ds xs ys p' h' => exact ⟨a == c, a = c, p', by simp, Iff.rfl, h', fun P fuel t w hu => run_equalIn_bool w fuel t a c hu⟩
theorem run_eqFields (fuel : Nat) : ∀ (fs : List Field) (ds : List TypeDesc) (i : Nat) (XS YS : List Value) (xs ys : List Value) (p : Prop), Flat P i fs ds → EqP ds xs ys p → (∀ j v, xs[j]? = some v → XS[i + j]? = some v) → (∀ j v, ys[j]? = some v → YS[i + j]? = some v) →
    ∀ w, (Op.eqFields (fuel + 1) XS.toArray YS.toArray fs).run P w = .ok (B p) w
  | [], [], _, _, _, xs, ys, p, _, he, _, _, w => by cases he; simp [Op.eqFields, B_true trivial]
  | [], _ :: _, _, _, _, _, _, _, hf, _, _, _, _ => hf.elim
  | _ :: _, [], _, _, _, _, _, _, hf, _, _, _, _ => hf.elim
  | f :: fs, d :: ds, i, XS, YS, xs, ys, p, hf, he, hx, hy, w => by
    obtain ⟨hn, ho, ha, hu, hr⟩ := hf
    have hn' : f.name ≠ "_" := by simpa using hn
    obtain ⟨u, xs', rfl⟩ : ∃ u xs', xs = u :: xs' := by cases he <;> exact ⟨_, _, rfl⟩
    obtain ⟨v, ys', rfl⟩ : ∃ v ys', ys = v :: ys' := by cases he <;> exact ⟨_, _, rfl⟩
    obtain ⟨a, q, p', haq, hpq, he', hrun⟩ := he.one
    have hp1 : ∀ w, (part f.type XS.toArray f.offset).run P w = .ok u w := fun w => by
      have := hx 0 u rfl
      simp [part, ha, ho, show XS[i]? = some u from this]
    have hp2 : ∀ w, (part f.type YS.toArray f.offset).run P w = .ok v w := fun w => by
      have := hy 0 v rfl
      simp [part, ha, ho, show YS[i]? = some v from this]
    have ih := run_eqFields fuel fs ds (i + 1) XS YS xs' ys' p' hr he' (fun j v hj => by have := hx (j + 1) v (by simpa using hj); rwa [show i + (j + 1) = i + 1 + j from by omega] at this)
      (fun j v hj => by have := hy (j + 1) v (by simpa using hj); rwa [show i + (j + 1) = i + 1 + j from by omega] at this) w
    simp only [Op.eqFields, hn', if_true, ne_eq, not_false_eq_true, Sem.run_bind, hp1, hp2, hrun P fuel f.type _ hu, Result.andThen_ok, Sem.run_ite, ih]
    cases h : a with
    | true => simp [B_congr (show p ↔ p' from ⟨fun hp => (hpq.1 hp).2, fun hp => hpq.2 ⟨haq.1 h, hp⟩⟩)]
    | false => simp [B_false (show ¬ p from fun hp => by rw [haq.2 (hpq.1 hp).1] at h; cases h)]
theorem run_equal_flat {t : TypeId} {ds : List TypeDesc} {xs ys : List Value} {p : Prop} (hQ : TQ P t ds) (he : EqP ds xs ys p) (w : World) : (Op.equal t (.agg xs.toArray) (.agg ys.toArray)).run P w = .ok (B p) w := by
  obtain ⟨fs, hu, hs, hg, hf⟩ := hQ.h
  have hfo : P.fieldsOf t = fs := by simp [Program.fieldsOf, hu]
  show (Op.equalIn (9998 + 1 + 1) t _ _).run P w = _
  rw [run_equalIn_struct w (9998 + 1) t _ _ (by rw [hfo]; exact hu) hs, hfo]
  exact run_eqFields 9998 fs.toList ds 0 xs ys xs ys p hf he (fun j v h => by simpa using h) (fun j v h => by simpa using h) w
theorem o_eql_s {x y : Operand} {t u : TypeId} {ds : List TypeDesc} {xs ys : List Value} {p : Prop} (hQ : TQ P t ds) (hx : ev F x = some (.agg xs.toArray)) (hy : ev F y = some (.agg ys.toArray)) (he : EqP ds xs ys p) (hd : Nat.ble (d + 1) n = true)
    (h : St n D w0 ((d, .bool (B p)) :: F) L (WL r P ops Q rest)) : St n D w0 F L (WL r P ops Q (⟨some d, .binOp .eql t x y u, ty, pos, af, none⟩ :: rest)) :=
  o_val rfl hd (fun a w ha _ => by
    obtain ⟨fs, hu, hs, hg, hf⟩ := hQ.h
    simp only [execOp, ha.eval hx, ha.eval hy, Sem.run_bind, run_eqGuard_agg w .eql t _ _ _ _ hg, Result.andThen_ok]
    rw [run_eql_struct]
    show (((Op.equal t (.agg xs.toArray) (.agg ys.toArray)).run P w).andThen _).andThen _ = _
    rw [run_equal_flat hQ he]; rfl) h
theorem o_neq_s {x y : Operand} {t u : TypeId} {ds : List TypeDesc} {xs ys : List Value} {p : Prop} (hQ : TQ P t ds) (hx : ev F x = some (.agg xs.toArray)) (hy : ev F y = some (.agg ys.toArray)) (he : EqP ds xs ys p) (hd : Nat.ble (d + 1) n = true)
    (h : St n D w0 ((d, .bool (B (¬ p))) :: F) L (WL r P ops Q rest)) : St n D w0 F L (WL r P ops Q (⟨some d, .binOp .neq t x y u, ty, pos, af, none⟩ :: rest)) :=
  o_val rfl hd (fun a w ha _ => by
    obtain ⟨fs, hu, hs, hg, hf⟩ := hQ.h
    simp only [execOp, ha.eval hx, ha.eval hy, Sem.run_bind, run_eqGuard_agg w .neq t _ _ _ _ hg, Result.andThen_ok]
    rw [run_neq_struct]
    show (((Op.equal t (.agg xs.toArray) (.agg ys.toArray)).run P w).andThen _).andThen _ = _
    rw [run_equal_flat hQ he]
    have e : (!B p) = B (¬ p) := by
      by_cases hp : p
      · rw [B_true hp, B_false (fun h => h hp)]; rfl
      · rw [B_false hp, B_true hp]; rfl
    rw [← e]; rfl) h

/-! ## lengths, least and greatest, closures -/
theorem o_len {t e : TypeId} {x : Operand} {a0 : Option Addr} {len cap : Nat} (hU : TU P t (.slice e)) (hx : ev F x = some (.slice a0 len cap)) (hd : Nat.ble (d + 1) n = true)
    (h : St n D w0 ((d, .int .i64 len) :: F) L (WL r P ops Q rest)) : St n D w0 F L (WL r P ops Q (⟨some d, .call ⟨.builtin .len, #[x], #[t]⟩, ty, pos, af, none⟩ :: rest)) :=
  o_val rfl hd (fun a w ha _ => by simp [execOp, resolve, invoke, builtin, Builtin.len_, ha.eval hx, run_under (TU.h (P := P) (t := t)), goInt]) h
theorem o_len_str {t : TypeId} {x : Operand} {s : ByteArray} (hU : TU P t .string) (hx : ev F x = some (.string s)) (hd : Nat.ble (d + 1) n = true)
    (h : St n D w0 ((d, .int .i64 s.size) :: F) L (WL r P ops Q rest)) : St n D w0 F L (WL r P ops Q (⟨some d, .call ⟨.builtin .len, #[x], #[t]⟩, ty, pos, af, none⟩ :: rest)) :=
  o_val rfl hd (fun a w ha _ => by simp [execOp, resolve, invoke, builtin, Builtin.len_, ha.eval hx, run_under (TU.h (P := P) (t := t)), goInt]) h
theorem o_min2 {x y : Operand} {k : IntKind} {m l : Int} {ats : Array TypeId} (hx : ev F x = some (.int k m)) (hy : ev F y = some (.int k l)) (hd : Nat.ble (d + 1) n = true)
    (h : St n D w0 ((d, .int k (if l < m then l else m)) :: F) L (WL r P ops Q rest)) : St n D w0 F L (WL r P ops Q (⟨some d, .call ⟨.builtin .min, #[x, y], ats⟩, ty, pos, af, none⟩ :: rest)) :=
  o_val rfl hd (fun a w ha _ => by simp [execOp, resolve, invoke, builtin, Builtin.min_, Builtin.min2, ha.eval hx, ha.eval hy]) h
theorem o_max2 {x y : Operand} {k : IntKind} {m l : Int} {ats : Array TypeId} (hx : ev F x = some (.int k m)) (hy : ev F y = some (.int k l)) (hd : Nat.ble (d + 1) n = true)
    (h : St n D w0 ((d, .int k (if m < l then l else m)) :: F) L (WL r P ops Q rest)) : St n D w0 F L (WL r P ops Q (⟨some d, .call ⟨.builtin .max, #[x, y], ats⟩, ty, pos, af, none⟩ :: rest)) :=
  o_val rfl hd (fun a w ha _ => by simp [execOp, resolve, invoke, builtin, Builtin.max_, Builtin.max2, ha.eval hx, ha.eval hy]) h
theorem o_func {fn : Fn} {xs ys : List Operand} {vs us : List Value} (hxs : Evs F xs vs) (hys : Evs F ys us) (hd : Nat.ble (d + 1) n = true)
    (h : St n D w0 ((d, .func fn vs.toArray us.toArray) :: F) L (WL r P ops Q rest)) : St n D w0 F L (WL r P ops Q (⟨some d, .makeFunc fn xs.toArray ys.toArray, ty, pos, af, none⟩ :: rest)) :=
  o_val rfl hd (fun a w ha _ => by
    have e1 : xs.toArray.map a.eval = vs.toArray := by rw [← hxs.map ha]; simp
    have e2 : ys.toArray.map a.eval = us.toArray := by rw [← hys.map ha]; simp
    simp [execOp, Instr.makeFunc, hxs.map ha, hys.map ha]) h

/-! ## a function's end -/
def resOne (tmps : Array Value) : ResultVar → Sem Value
  | .tmp t => pure (tmps.getD t undef)
  | .cell a t => do loadVar t (← asAddr (tmps.getD a undef))
def ResV (P : Program) (n : Nat) (D : List Deferred) (w0 : World) (F : List (Nat × Value)) (L : List Ent) (r : ResultVar) (v : Value) : Prop :=
  ∀ a w, Fr n D F a → Rep w0 w L → (resOne a.tmps r).run P w = .ok v w
theorem getD_of {a : Act} (ha : Fr n D F a) {t : Nat} {v : Value} (h : lk F t = some v) : a.tmps.getD t undef = v := by
  simp [Array.getD_eq_getD_getElem?, ha.get t v h]
theorem rv_tmp {t : Nat} {v : Value} (h : lk F t = some v) : ResV P n D w0 F L (.tmp t) v := fun a w ha _ => by
  simp [resOne, getD_of ha h]
theorem rv_cell {t : Nat} {u e : TypeId} {b : Nat} {l : List Value} {fz : Nat × Nat} {v : Value} (hA : TA P u false) (h : lk F t = some (.pointer (some ⟨b, 0, none⟩))) (hk : Kn w0 L b (.cells l.toArray e fz)) (hv : Nth l 0 v) :
    ResV P n D w0 F L (.cell t u) v := fun a w ha hw => by
  have hc : w.cell? ⟨b, 0, none⟩ = some v := by simp [World.cell?, hk w hw, hv.eq]
  simp [resOne, getD_of ha h, asAddr, loadVar, TA.h (P := P) (t := u), hc]
theorem rv_cellA {t : Nat} {u e : TypeId} {b k : Nat} {l : List Value} {fz : Nat × Nat} (hA : TA P u true) (hS : TS P u k) (h : lk F t = some (.pointer (some ⟨b, 0, none⟩))) (hk : Kn w0 L b (.cells l.toArray e fz)) (hl : l.length = k) :
    ResV P n D w0 F L (.cell t u) (.agg l.toArray) := fun a w ha hw => by
  subst hl
  have hc := run_loadCells_list (P := P) w ⟨b, 0, none⟩ l (fun j v hj => by rw [add_none]; simp [World.cell?, hk w hw, hj])
  simp [resOne, getD_of ha h, asAddr, loadVar, TA.h (P := P) (t := u), TS.h (P := P) (t := u), hc]

variable {fn : Func} {R : Ending → World → Prop}
theorem results_eq (tmps : Array Value) : results fn tmps = (do let vs ← fn.results.mapM (resOne tmps); pure (if h : vs.size = 1 then vs[0] else .tuple vs)) := rfl
theorem r_body {v : Value} (hres : ∀ a w, Fr n [] F a → Rep w0 w L → (results fn a.tmps).run P w = .ok v w) (h : ∀ w, Rep w0 w L → R (.returned v) w) : St n [] w0 F L (bodyPost P fn R .ret) :=
  fun a w ha hw => ⟨ha.defers, v, hres a w ha hw, h w hw⟩
theorem r_body' {v : Value} (hres : ∀ a w, Fr n [] F a → Rep w0 w L → (results fn a.tmps).run P w = .ok v w) (h : ∀ w, Rep w0 w L → R (.returned v) w) : St n [] w0 F L (bodyPost P fn R .normal) :=
  fun a w ha hw => ⟨ha.defers, v, hres a w ha hw, h w hw⟩
theorem res0 (hr : fn.results = #[]) : ∀ a w, Fr n D F a → Rep w0 w L → (results fn a.tmps).run P w = .ok (.tuple #[]) w := fun a w _ _ => by
  simp [results_eq, hr]
theorem res1 {r1 : ResultVar} {v1 : Value} (hr : fn.results = #[r1]) (h1 : ResV P n D w0 F L r1 v1) : ∀ a w, Fr n D F a → Rep w0 w L → (results fn a.tmps).run P w = .ok v1 w := fun a w ha hw => by
  simp [results_eq, hr, h1 a w ha hw]
theorem res2 {r1 r2 : ResultVar} {v1 v2 : Value} (hr : fn.results = #[r1, r2]) (h1 : ResV P n D w0 F L r1 v1) (h2 : ResV P n D w0 F L r2 v2) :
    ∀ a w, Fr n D F a → Rep w0 w L → (results fn a.tmps).run P w = .ok (.tuple #[v1, v2]) w := fun a w ha hw => by
  simp [results_eq, hr, h1 a w ha hw, h2 a w ha hw]
theorem res3 {r1 r2 r3 : ResultVar} {v1 v2 v3 : Value} (hr : fn.results = #[r1, r2, r3]) (h1 : ResV P n D w0 F L r1 v1) (h2 : ResV P n D w0 F L r2 v2) (h3 : ResV P n D w0 F L r3 v3) :
    ∀ a w, Fr n D F a → Rep w0 w L → (results fn a.tmps).run P w = .ok (.tuple #[v1, v2, v3]) w := fun a w ha hw => by
  simp [results_eq, hr, h1 a w ha hw, h2 a w ha hw, h3 a w ha hw]
theorem res4 {r1 r2 r3 r4 : ResultVar} {v1 v2 v3 v4 : Value} (hr : fn.results = #[r1, r2, r3, r4]) (h1 : ResV P n D w0 F L r1 v1) (h2 : ResV P n D w0 F L r2 v2) (h3 : ResV P n D w0 F L r3 v3) (h4 : ResV P n D w0 F L r4 v4) :
    ∀ a w, Fr n D F a → Rep w0 w L → (results fn a.tmps).run P w = .ok (.tuple #[v1, v2, v3, v4]) w := fun a w ha hw => by
  simp [results_eq, hr, h1 a w ha hw, h2 a w ha hw, h3 a w ha hw, h4 a w ha hw]
end
end Go.Sx
