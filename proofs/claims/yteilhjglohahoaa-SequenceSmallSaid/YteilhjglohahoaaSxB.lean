/- Maps of the call's own, with keys of one cell that are compared at once (numbers, strings): made, read, written. -/
import Derived.Test.YteilhjglohahoaaSx7
import Derived.MapKept
namespace Go.Sx
open Go Go.RowKit
set_option linter.unusedVariables false

def mkEs : Nat → List (Value × Value) → List MapEntry
  | _, [] => []
  | i, (k, v) :: r => ⟨k, v, i⟩ :: mkEs (i + 1) r
/-- The map that holds these, in the order in which they came. -/
def MO (m : List (Value × Value)) : Obj := .map (mkEs 0 m).toArray m.length
theorem mkEs_get : ∀ (m : List (Value × Value)) (i j : Nat), (mkEs i m)[j]? = (m[j]?).map fun p => ⟨p.1, p.2, i + j⟩
  | [], i, j => by simp [mkEs]
  | p :: r, i, 0 => by simp [mkEs]
  | p :: r, i, j + 1 => by
    simp only [mkEs, List.getElem?_cons_succ, mkEs_get r (i + 1) j]
    rw [show i + 1 + j = i + (j + 1) from by omega]
theorem mkEs_len : ∀ (m : List (Value × Value)) (i : Nat), (mkEs i m).length = m.length
  | [], _ => rfl
  | _ :: r, i => by simp [mkEs, mkEs_len r]
theorem mkEs_app : ∀ (m r : List (Value × Value)) (i : Nat), mkEs i (m ++ r) = mkEs i m ++ mkEs (i + m.length) r
  | [], r, i => by simp [mkEs]
  | p :: m, r, i => by
    simp only [List.cons_append, mkEs, mkEs_app m r (i + 1), List.length_cons]
    rw [show i + 1 + m.length = i + (m.length + 1) from by omega]
theorem mkEs_mem {m : List (Value × Value)} {i : Nat} {x : MapEntry} (h : x ∈ mkEs i m) : (x.key, x.val) ∈ m := by
  obtain ⟨j, hj⟩ := List.getElem?_of_mem h
  rw [mkEs_get] at hj
  cases hm : m[j]? with
  | none => rw [hm] at hj; cases hj
  | some p => rw [hm] at hj; cases hj; exact List.mem_of_getElem? hm
/-- The keys fit, and no two are alike. -/
structure MK (d : TypeDesc) (m : List (Value × Value)) : Prop where
  key : ∀ p ∈ m, MapKept.IsKey d p.1
  nd : (m.map Prod.fst).Nodup
theorem MK.nil {d : TypeDesc} : MK d [] := ⟨by simp, by simp⟩
theorem MK.push {d : TypeDesc} {m : List (Value × Value)} {k v : Value} (h : MK d m) (hk : MapKept.IsKey d k) (hn : ∀ p ∈ m, p.1 ≠ k) : MK d (m ++ [(k, v)]) :=
  ⟨fun p hp => by
    rcases List.mem_append.1 hp with hp | hp
    · exact h.key p hp
    · simp at hp; subst hp; exact hk, by
    rw [List.map_append, List.nodup_append]
    refine ⟨h.nd, by simp, fun a ha b hb e => ?_⟩
    simp at hb; subst hb; subst e
    obtain ⟨p, hp, e⟩ := List.mem_map.1 ha
    exact hn p hp e⟩
theorem find_out {d : TypeDesc} {m : List (Value × Value)} {k : Value} (h : MK d m) (hk : MapKept.IsKey d k) (hn : ∀ p ∈ m, p.1 ≠ k) : Instr.findNow d k (mkEs 0 m) 0 = some none := by
  rcases MapKept.findNow_spec hk (mkEs 0 m) 0 (fun x hx => h.key _ (mkEs_mem hx)) with ⟨h1, _⟩ | ⟨j, e, _, h2, h3⟩
  · exact h1
  · exact absurd h3 (hn _ (mkEs_mem (List.mem_of_getElem? h2)))
theorem find_in {d : TypeDesc} {m : List (Value × Value)} {k v : Value} (h : MK d m) (hk : MapKept.IsKey d k) (j : Nat) (hj : m[j]? = some (k, v)) : Instr.findNow d k (mkEs 0 m) 0 = some (some (j, v)) := by
  rcases MapKept.findNow_spec hk (mkEs 0 m) 0 (fun x hx => h.key _ (mkEs_mem hx)) with ⟨_, h2⟩ | ⟨i, e, h1, h2, h3⟩
  · have : (mkEs 0 m)[j]? = some ⟨k, v, 0 + j⟩ := by rw [mkEs_get, hj]; rfl
    exact absurd rfl (h2 _ (List.mem_of_getElem? this))
  · rw [mkEs_get] at h2
    cases hm : m[i]? with
    | none => rw [hm] at h2; cases h2
    | some p =>
      rw [hm] at h2; cases h2
      have hij : i = j := by
        have hi := (List.getElem?_eq_some_iff.1 hm)
        have hj' := (List.getElem?_eq_some_iff.1 hj)
        have e1 : (m.map Prod.fst)[i]'(by simpa using hi.1) = p.1 := by simp [hi.2]
        have e2 : (m.map Prod.fst)[j]'(by simpa using hj'.1) = k := by simp [hj'.2]
        have hp := List.pairwise_iff_getElem.1 h.nd
        rcases Nat.lt_trichotomy i j with hlt | heq | hgt
        · exact absurd (by rw [e1, e2]; exact h3) (hp i j (by simpa using hi.1) (by simpa using hj'.1) hlt)
        · exact heq
        · exact absurd (by rw [e1, e2]; exact h3.symm) (hp j i (by simpa using hj'.1) (by simpa using hi.1) hgt)
      subst hij
      rw [hm] at hj; cases hj
      simpa using h1

section
variable {r : Option Nat} {P : Program} {n : Nat} {D : List Deferred} {w0 : World} {F : List (Nat × Value)} {L L' : List Ent} {Q : Exit → Act → World → Prop} {ops : Array Oper}
variable {d : Tmp} {ty : TypeId} {pos : String} {af : Array Edge} {rest : List Oper}
theorem o_makeMap {t k e : TypeId} {x : Operand} {kk : IntKind} {i : Int} (hU : TU P t (.map k e)) (hx : ev F x = some (.int kk i)) (hd : Nat.ble (d + 1) n = true)
    (h : ∀ b, St n D w0 ((d, .map (some b)) :: F) (⟨b, MO [], true⟩ :: L) (WL r P ops Q rest)) : St n D w0 F L (WL r P ops Q (⟨some d, .makeMap t (some x), ty, pos, af, none⟩ :: rest)) :=
  o_plain rfl rfl fun a w ha hw => by
    have hr : (execOp a.eval ⟨some d, .makeMap t (some x), ty, pos, af, none⟩).run P w = .ok (.value (.map (some w.heap.size))) (w.alloc (MO [])) := by
      simp [execOp, Instr.makeMap, ha.eval hx, run_under (TU.h (P := P) (t := t)), asInt, newObj, MO, mkEs]
      rfl
    rw [hr]
    exact h _ _ _ (ha.put (Nat.le_of_ble_eq_true hd) _) (hw.alloc _)
theorem o_makeMap0 {t : TypeId} (hd : Nat.ble (d + 1) n = true)
    (h : ∀ b, St n D w0 ((d, .map (some b)) :: F) (⟨b, MO [], true⟩ :: L) (WL r P ops Q rest)) : St n D w0 F L (WL r P ops Q (⟨some d, .makeMap t none, ty, pos, af, none⟩ :: rest)) :=
  o_plain rfl rfl fun a w ha hw => by
    have hr : (execOp a.eval ⟨some d, .makeMap t none, ty, pos, af, none⟩).run P w = .ok (.value (.map (some w.heap.size))) (w.alloc (MO [])) := rfl
    rw [hr]
    exact h _ _ _ (ha.put (Nat.le_of_ble_eq_true hd) _) (hw.alloc _)
theorem o_look_out {t k e : TypeId} {dk : TypeDesc} {x y : Operand} {b : Nat} {key z : Value} {zl : List Value} {m : List (Value × Value)} (hU : TU P t (.map k e)) (hV : TU P k dk) (hZ : TZ P e z zl) (hx : ev F x = some (.map (some b))) (hy : ev F y = some key)
    (hk : Kn w0 L b (MO m)) (hm : MK dk m) (hkey : MapKept.IsKey dk key) (hn : ∀ p ∈ m, p.1 ≠ key) (hd : Nat.ble (d + 1) n = true)
    (h : St n D w0 ((d, z) :: F) L (WL r P ops Q rest)) : St n D w0 F L (WL r P ops Q (⟨some d, .lookup t x y false, ty, pos, af, none⟩ :: rest)) :=
  o_val rfl hd (fun a w ha hw => by
    have hb := hk w hw
    have h1 := MapKept.run_getObj_map (P := P) hb
    simp [execOp, Instr.lookup, ha.eval hx, ha.eval hy, run_under (TU.h (P := P) (t := t)), h1, MapKept.run_checkKey (TU.h (P := P) (t := k)) hkey,
      MapKept.run_findKey (TU.h (P := P) (t := k)) (find_out hm hkey hn), TZ.h (P := P) (t := e)]) h
theorem o_look_in {t k e : TypeId} {dk : TypeDesc} {x y : Operand} {b : Nat} {key v : Value} {m : List (Value × Value)} (hU : TU P t (.map k e)) (hV : TU P k dk) (hx : ev F x = some (.map (some b))) (hy : ev F y = some key)
    (hk : Kn w0 L b (MO m)) (hm : MK dk m) (hkey : MapKept.IsKey dk key) (j : Nat) (hj : m[j]? = some (key, v)) (hd : Nat.ble (d + 1) n = true)
    (h : St n D w0 ((d, v) :: F) L (WL r P ops Q rest)) : St n D w0 F L (WL r P ops Q (⟨some d, .lookup t x y false, ty, pos, af, none⟩ :: rest)) :=
  o_val rfl hd (fun a w ha hw => by
    have hb := hk w hw
    have h1 := MapKept.run_getObj_map (P := P) hb
    simp [execOp, Instr.lookup, ha.eval hx, ha.eval hy, run_under (TU.h (P := P) (t := t)), h1, MapKept.run_checkKey (TU.h (P := P) (t := k)) hkey,
      MapKept.run_findKey (TU.h (P := P) (t := k)) (find_in hm hkey j hj)]) h
theorem o_mapNew {t k e : TypeId} {dk : TypeDesc} {x y z : Operand} {b : Nat} {key v : Value} {m : List (Value × Value)} (hU : TU P t (.map k e)) (hV : TU P k dk) (hx : ev F x = some (.map (some b))) (hy : ev F y = some key) (hz : ev F z = some v)
    (hm : MK dk m) (hkey : MapKept.IsKey dk key) (hn : ∀ p ∈ m, p.1 ≠ key) (hu : Upd L b (MO m) (MO (m ++ [(key, v)])) L')
    (h : St n D w0 F L' (WL r P ops Q rest)) : St n D w0 F L (WL r P ops Q (⟨none, .mapUpdate t x y z, ty, pos, af, none⟩ :: rest)) :=
  o_plain rfl rfl fun a w ha hw => by
    have hb := hw.at hu.at
    have h1 := MapKept.run_getObj_map (P := P) hb
    have hset : MO (m ++ [(key, v)]) = .map ((mkEs 0 m).toArray.push ⟨key, v, m.length⟩) (m.length + 1) := by
      simp [MO, mkEs_app, mkEs]
    have hr : (execOp a.eval ⟨none, .mapUpdate t x y z, ty, pos, af, none⟩).run P w = .ok .skip { w with heap := w.heap.setIfInBounds b (MO (m ++ [(key, v)])) } := by
      rw [hset]
      simp [execOp, Instr.mapUpdate, ha.eval hx, ha.eval hy, ha.eval hz, run_under (TU.h (P := P) (t := t)), h1, MapKept.run_checkKey (TU.h (P := P) (t := k)) hkey,
        MapKept.run_findKey (TU.h (P := P) (t := k)) (find_out hm hkey hn), MapKept.run_setObj_map _ hb]
    rw [hr]
    obtain ⟨g1, g2⟩ := MapKept.heap_set (o' := MO (m ++ [(key, v)])) hb
    exact h _ _ (ha.put_none _) (hw.turn hu rfl rfl rfl (by simp) g1 g2)

theorem o_insNew {t k e : TypeId} {dk : TypeDesc} {x y z : Operand} {b : Nat} {key v : Value} {m : List (Value × Value)} (hU : TU P t (.map k e)) (hV : TU P k dk) (hx : ev F x = some (.map (some b))) (hy : ev F y = some key) (hz : ev F z = some v)
    (hat : At L b (MO m)) (hm : MK dk m) (hkey : MapKept.IsKey dk key) (hn : ∀ p ∈ m, p.1 ≠ key) (hu : Upd L b (MO m) (MO (m ++ [(key, v)])) L')
    (h : St n D w0 F L' (WL r P ops Q rest)) : St n D w0 F L (WL r P ops Q (⟨none, .insert t x y z, ty, pos, af, none⟩ :: rest)) :=
  o_plain rfl rfl fun a w ha hw => by
    have hb := hw.at hu.at
    have h1 := MapKept.run_getObj_map (P := P) hb
    have hset : MO (m ++ [(key, v)]) = .map ((mkEs 0 m).toArray.push ⟨key, v, m.length⟩) (m.length + 1) := by
      simp [MO, mkEs_app, mkEs]
    have hr : (execOp a.eval ⟨none, .insert t x y z, ty, pos, af, none⟩).run P w = .ok .skip { w with heap := w.heap.setIfInBounds b (MO (m ++ [(key, v)])) } := by
      rw [hset]
      simp [execOp, Instr.mapUpdate, ha.eval hx, ha.eval hy, ha.eval hz, run_under (TU.h (P := P) (t := t)), h1, MapKept.run_checkKey (TU.h (P := P) (t := k)) hkey,
        MapKept.run_findKey (TU.h (P := P) (t := k)) (find_out hm hkey hn), MapKept.run_setObj_map _ hb]
    rw [hr]
    obtain ⟨g1, g2⟩ := MapKept.heap_set (o' := MO (m ++ [(key, v)])) hb
    exact h _ _ (ha.put_none _) (hw.turn hu rfl rfl rfl (by simp) g1 g2)
theorem o_mapNewG {t k e : TypeId} {dk : TypeDesc} {x y z : Operand} {b : Nat} {key v : Value} {m : List (Value × Value)} (hU : TU P t (.map k e)) (hV : TU P k dk) (hx : ev F x = some (.map (some b))) (hy : ev F y = some key) (hz : ev F z = some v)
    (hat : At L b (MO m)) (hm : MK dk m) (hkey : MapKept.IsKey dk key) (hn : ∀ p ∈ m, p.1 ≠ key) (hu : Upd L b (MO m) (MO (m ++ [(key, v)])) L')
    (h : St n D w0 F L' (WL r P ops Q rest)) : St n D w0 F L (WL r P ops Q (⟨none, .mapUpdate t x y z, ty, pos, af, none⟩ :: rest)) :=
  o_plain rfl rfl fun a w ha hw => by
    have hb := hw.at hu.at
    have h1 := MapKept.run_getObj_map (P := P) hb
    have hset : MO (m ++ [(key, v)]) = .map ((mkEs 0 m).toArray.push ⟨key, v, m.length⟩) (m.length + 1) := by
      simp [MO, mkEs_app, mkEs]
    have hr : (execOp a.eval ⟨none, .mapUpdate t x y z, ty, pos, af, none⟩).run P w = .ok .skip { w with heap := w.heap.setIfInBounds b (MO (m ++ [(key, v)])) } := by
      rw [hset]
      simp [execOp, Instr.mapUpdate, ha.eval hx, ha.eval hy, ha.eval hz, run_under (TU.h (P := P) (t := t)), h1, MapKept.run_checkKey (TU.h (P := P) (t := k)) hkey,
        MapKept.run_findKey (TU.h (P := P) (t := k)) (find_out hm hkey hn), MapKept.run_setObj_map _ hb]
    rw [hr]
    obtain ⟨g1, g2⟩ := MapKept.heap_set (o' := MO (m ++ [(key, v)])) hb
    exact h _ _ (ha.put_none _) (hw.turn hu rfl rfl rfl (by simp) g1 g2)
theorem o_lookT_out {t k e : TypeId} {dk : TypeDesc} {x y : Operand} {b : Nat} {key z : Value} {zl : List Value} {m : List (Value × Value)} (hU : TU P t (.map k e)) (hV : TU P k dk) (hZ : TZ P e z zl) (hx : ev F x = some (.map (some b))) (hy : ev F y = some key)
    (hk : Kn w0 L b (MO m)) (hm : MK dk m) (hkey : MapKept.IsKey dk key) (hn : ∀ p ∈ m, p.1 ≠ key) (hd : Nat.ble (d + 1) n = true)
    (h : St n D w0 ((d, .tuple #[z, .bool false]) :: F) L (WL r P ops Q rest)) : St n D w0 F L (WL r P ops Q (⟨some d, .lookup t x y true, ty, pos, af, none⟩ :: rest)) :=
  o_val rfl hd (fun a w ha hw => by
    have hb := hk w hw
    have h1 := MapKept.run_getObj_map (P := P) hb
    simp [execOp, Instr.lookup, ha.eval hx, ha.eval hy, run_under (TU.h (P := P) (t := t)), h1, MapKept.run_checkKey (TU.h (P := P) (t := k)) hkey,
      MapKept.run_findKey (TU.h (P := P) (t := k)) (find_out hm hkey hn), TZ.h (P := P) (t := e)]) h
theorem o_lookT_in {t k e : TypeId} {dk : TypeDesc} {x y : Operand} {b : Nat} {key v : Value} {m : List (Value × Value)} (hU : TU P t (.map k e)) (hV : TU P k dk) (hx : ev F x = some (.map (some b))) (hy : ev F y = some key)
    (hk : Kn w0 L b (MO m)) (hm : MK dk m) (hkey : MapKept.IsKey dk key) (j : Nat) (hj : m[j]? = some (key, v)) (hd : Nat.ble (d + 1) n = true)
    (h : St n D w0 ((d, .tuple #[v, .bool true]) :: F) L (WL r P ops Q rest)) : St n D w0 F L (WL r P ops Q (⟨some d, .lookup t x y true, ty, pos, af, none⟩ :: rest)) :=
  o_val rfl hd (fun a w ha hw => by
    have hb := hk w hw
    have h1 := MapKept.run_getObj_map (P := P) hb
    simp [execOp, Instr.lookup, ha.eval hx, ha.eval hy, run_under (TU.h (P := P) (t := t)), h1, MapKept.run_checkKey (TU.h (P := P) (t := k)) hkey,
      MapKept.run_findKey (TU.h (P := P) (t := k)) (find_in hm hkey j hj)]) h
/-- The value at a key that is there, written anew. -/
theorem o_mapSet {t k e : TypeId} {dk : TypeDesc} {x y z : Operand} {b : Nat} {key u v : Value} {m : List (Value × Value)} (hU : TU P t (.map k e)) (hV : TU P k dk) (hx : ev F x = some (.map (some b))) (hy : ev F y = some key) (hz : ev F z = some v)
    (hat : At L b (MO m)) (hm : MK dk m) (hkey : MapKept.IsKey dk key) (j : Nat) (hj : m[j]? = some (key, u)) (hu : Upd L b (MO m) (MO (m.set j (key, v))) L')
    (h : St n D w0 F L' (WL r P ops Q rest)) : St n D w0 F L (WL r P ops Q (⟨none, .mapUpdate t x y z, ty, pos, af, none⟩ :: rest)) :=
  o_plain rfl rfl fun a w ha hw => by
    have hb := hw.at hu.at
    have h1 := MapKept.run_getObj_map (P := P) hb
    have hj0 : (mkEs 0 m)[j]? = some ⟨key, u, j⟩ := by rw [mkEs_get, hj]; simp
    have hset : MO (m.set j (key, v)) = .map ((mkEs 0 m).toArray.modify j fun e => { e with key := key, val := v }) m.length := by
      have hlt := (List.getElem?_eq_some_iff.1 hj).1
      simp only [MO, List.length_set]
      congr 1
      apply Array.ext'
      simp only [Array.toList_modify]
      apply List.ext_getElem?
      intro i
      rw [mkEs_get, List.getElem?_modify, mkEs_get, List.getElem?_set]
      by_cases e : j = i
      · subst e
        simp [hlt, hj]
      · simp [e]
    have hstay : (Instr.keyThatStays key key).run P w = .ok key w := MapKept.run_keyThatStays hkey
    have hr : (execOp a.eval ⟨none, .mapUpdate t x y z, ty, pos, af, none⟩).run P w = .ok .skip { w with heap := w.heap.setIfInBounds b (MO (m.set j (key, v))) } := by
      rw [hset]
      simp [execOp, Instr.mapUpdate, ha.eval hx, ha.eval hy, ha.eval hz, run_under (TU.h (P := P) (t := t)), h1, MapKept.run_checkKey (TU.h (P := P) (t := k)) hkey,
        MapKept.run_findKey (TU.h (P := P) (t := k)) (find_in hm hkey j hj), MapKept.run_setObj_map _ hb, hj0, hstay]
    rw [hr]
    obtain ⟨g1, g2⟩ := MapKept.heap_set (o' := MO (m.set j (key, v))) hb
    exact h _ _ (ha.put_none _) (hw.turn hu rfl rfl rfl (by simp) g1 g2)

/-! ## sets of numbers -/
def setM (kd : IntKind) (l : List Int) : List (Value × Value) := l.map fun x => (.int kd x, .bool true)
theorem MK.set {kd : IntKind} {l : List Int} (h : l.Nodup) : MK (.int kd) (setM kd l) := by
  refine ⟨fun p hp => ?_, ?_⟩
  · obtain ⟨x, _, rfl⟩ := List.mem_map.1 hp
    rfl
  · have : (setM kd l).map Prod.fst = l.map (fun x => Value.int kd x) := by simp [setM, Function.comp_def]
    rw [this]
    exact List.pairwise_map.2 (h.imp fun hne e => hne (by cases e; rfl))
theorem setM_push (kd : IntKind) (l : List Int) (x : Int) : setM kd (l ++ [x]) = setM kd l ++ [(.int kd x, .bool true)] := by simp [setM]
theorem setM_out {kd : IntKind} {l : List Int} {x : Int} (h : x ∉ l) : ∀ p ∈ setM kd l, p.1 ≠ .int kd x := fun p hp e => by
  obtain ⟨y, hy, rfl⟩ := List.mem_map.1 hp
  cases e; exact h hy
theorem o_lookS {t k e : TypeId} {kd : IntKind} {x y : Operand} {b : Nat} {i : Int} {l : List Int} (hU : TU P t (.map k e)) (hV : TU P k (.int kd)) (hZ : TZ P e (.bool false) [.bool false]) (hx : ev F x = some (.map (some b))) (hy : ev F y = some (.int kd i))
    (hk : Kn w0 L b (MO (setM kd l))) (hm : l.Nodup) (hd : Nat.ble (d + 1) n = true)
    (h : St n D w0 ((d, .bool (decide (i ∈ l))) :: F) L (WL r P ops Q rest)) : St n D w0 F L (WL r P ops Q (⟨some d, .lookup t x y false, ty, pos, af, none⟩ :: rest)) := by
  by_cases hi : i ∈ l
  · obtain ⟨j, hj⟩ := List.getElem?_of_mem hi
    have e1 : decide (i ∈ l) = true := decide_eq_true hi
    rw [e1] at h
    exact o_look_in hU hV hx hy hk (MK.set hm) rfl j (v := .bool true) (by simp [setM, hj]) hd h
  · have e1 : decide (i ∈ l) = false := decide_eq_false hi
    rw [e1] at h
    exact o_look_out hU hV hZ hx hy hk (MK.set hm) rfl (setM_out hi) hd h
theorem o_mapNewS {t k e : TypeId} {kd : IntKind} {x y z : Operand} {b : Nat} {i : Int} {l : List Int} (hU : TU P t (.map k e)) (hV : TU P k (.int kd)) (hx : ev F x = some (.map (some b))) (hy : ev F y = some (.int kd i)) (hz : ev F z = some (.bool true))
    (hat : At L b (MO (setM kd l))) (hm : l.Nodup) (hi : i ∉ l) (hu : Upd L b (MO (setM kd l)) (MO (setM kd (l ++ [i]))) L')
    (h : St n D w0 F L' (WL r P ops Q rest)) : St n D w0 F L (WL r P ops Q (⟨none, .mapUpdate t x y z, ty, pos, af, none⟩ :: rest)) := by
  rw [setM_push] at hu
  exact o_mapNew hU hV hx hy hz (MK.set hm) rfl (setM_out hi) hu h
end
end Go.Sx
