/- A part of the proofs of this seat: a small logic of walks, plain laws, and what some of the program's functions compute, shown by walks through their code. Conditions: the hypotheses that each theorem names. -/
import Derived.Test.YtdahckhlfldkkaaZPSmall0
import Derived.MapKept
import Derived.OrdersIn
import Derived.StillTail
import Derived.Laws.Concat
import Derived.Lib.SliceRun
set_option linter.unusedSimpArgs false
set_option linter.unusedVariables false
set_option linter.unusedSectionVars false
namespace Go.Sx
open Go Go.RowKit
def zk4 : Nat → List (Value × Value) → List MapEntry
  | _, [] => []
  | i, (k, v) :: r => ⟨k, v, i⟩ :: zk4 (i + 1) r
def MO (m : List (Value × Value)) : Obj := .map (zk4 0 m).toArray m.length
theorem zo5 : ∀ (m : List (Value × Value)) (i j : Nat), (zk4 i m)[j]? = (m[j]?).map fun p => ⟨p.1, p.2, i + j⟩
  | [], i, j => by simp [zk4]
  | p :: r, i, 0 => by simp [zk4]
  | p :: r, i, j + 1 => by
    simp only [zk4, List.getElem?_cons_succ, zo5 r (i + 1) j]
    rw [show i + 1 + j = i + (j + 1) from by omega]
theorem zQ7 : ∀ (m r : List (Value × Value)) (i : Nat), zk4 i (m ++ r) = zk4 i m ++ zk4 (i + m.length) r
  | [], r, i => by simp [zk4]
  | p :: m, r, i => by
    simp only [List.cons_append, zk4, zQ7 m r (i + 1), List.length_cons]
    rw [show i + 1 + m.length = i + (m.length + 1) from by omega]
theorem zx5 {m : List (Value × Value)} {i : Nat} {x : MapEntry} (h : x ∈ zk4 i m) : (x.key, x.val) ∈ m := by
  obtain ⟨j, hj⟩ := List.getElem?_of_mem h
  rw [zo5] at hj
  cases hm : m[j]? with
  | none => rw [hm] at hj; cases hj
  | some p => rw [hm] at hj; cases hj; exact List.mem_of_getElem? hm
structure MK (d : TypeDesc) (m : List (Value × Value)) : Prop where
  key : ∀ p ∈ m, MapKept.IsKey d p.1
  nd : (m.map Prod.fst).Nodup
theorem MK.nil {d : TypeDesc} : MK d [] := ⟨by simp, by simp⟩
theorem yd4 {d : TypeDesc} {m : List (Value × Value)} {k : Value} (h : MK d m) (hk : MapKept.IsKey d k) (hn : ∀ p ∈ m, p.1 ≠ k) : Instr.findNow d k (zk4 0 m) 0 = some none := by
  rcases MapKept.findNow_spec hk (zk4 0 m) 0 (fun x hx => h.key _ (zx5 hx)) with ⟨h1, _⟩ | ⟨j, e, _, h2, h3⟩
  · exact h1
  · exact absurd h3 (hn _ (zx5 (List.mem_of_getElem? h2)))
theorem yC1 {d : TypeDesc} {m : List (Value × Value)} {k v : Value} (h : MK d m) (hk : MapKept.IsKey d k) (j : Nat) (hj : m[j]? = some (k, v)) : Instr.findNow d k (zk4 0 m) 0 = some (some (j, v)) := by
  rcases MapKept.findNow_spec hk (zk4 0 m) 0 (fun x hx => h.key _ (zx5 hx)) with ⟨_, h2⟩ | ⟨i, e, h1, h2, h3⟩
  · have : (zk4 0 m)[j]? = some ⟨k, v, 0 + j⟩ := by rw [zo5, hj]; rfl
    exact absurd rfl (h2 _ (List.mem_of_getElem? this))
  · rw [zo5] at h2
    cases hm : m[i]? with
    | none => rw [hm] at h2; cases h2
    | some p =>
      rw [hm] at h2; cases h2
      have hij : i = j := by
        have hi := (List.getElem?_eq_some_iff.1 hm)
        have hj' := (List.getElem?_eq_some_iff.1 hj)
        have e1 : (m.map Prod.fst)[i]'(by simpa using hi.1) = p.1 := by simp [hi.2]
        have e2 : (m.map Prod.fst)[j]'(by simpa using hj'.1) = k := by simp [hj'.2]
        have hp := List.pairwise_iff_getElem.1 h.nd
        rcases Nat.lt_trichotomy i j with hlt | heq | hgt
        · exact absurd (by rw [e1, e2]; exact h3) (hp i j (by simpa using hi.1) (by simpa using hj'.1) hlt)
        · exact heq
        · exact absurd (by rw [e1, e2]; exact h3.symm) (hp j i (by simpa using hj'.1) (by simpa using hi.1) hgt)
      subst hij
      rw [hm] at hj; cases hj
      simpa using h1
section
variable {r : Option Nat} {P : Program} {n : Nat} {D : List Deferred} {w0 : World} {F : List (Nat × Value)} {L L' : List Ent} {Q : Exit → Act → World → Prop} {ops : Array Oper}
variable {d : Tmp} {ty : TypeId} {pos : String} {af : Array Edge} {rest : List Oper}
theorem zm0 {t k e : TypeId} {x : Operand} {kk : IntKind} {i : Int} (hU : TU P t (.map k e)) (hx : ev F x = some (.int kk i)) (hd : Nat.ble (d + 1) n = true)
    (h : ∀ b, St n D w0 ((d, .map (some b)) :: F) (⟨b, MO [], true⟩ :: L) (WL r P ops Q rest)) : St n D w0 F L (WL r P ops Q (⟨some d, .makeMap t (some x), ty, pos, af, none⟩ :: rest)) :=
  zi0 rfl rfl fun a w ha hw => by
    have hr : (execOp a.eval ⟨some d, .makeMap t (some x), ty, pos, af, none⟩).run P w = .ok (.value (.map (some w.heap.size))) (w.alloc (MO [])) := by
      simp [execOp, Instr.makeMap, ha.eval hx, zb2 (TU.h (P := P) (t := t)), asInt, newObj, MO, zk4]
      rfl
    rw [hr]
    exact h _ _ _ (ha.put (Nat.le_of_ble_eq_true hd) _) (hw.alloc _)
theorem c8 {t : TypeId} (hd : Nat.ble (d + 1) n = true)
    (h : ∀ b, St n D w0 ((d, .map (some b)) :: F) (⟨b, MO [], true⟩ :: L) (WL r P ops Q rest)) : St n D w0 F L (WL r P ops Q (⟨some d, .makeMap t none, ty, pos, af, none⟩ :: rest)) :=
  zi0 rfl rfl fun a w ha hw => by
    have hr : (execOp a.eval ⟨some d, .makeMap t none, ty, pos, af, none⟩).run P w = .ok (.value (.map (some w.heap.size))) (w.alloc (MO [])) := rfl
    rw [hr]
    exact h _ _ _ (ha.put (Nat.le_of_ble_eq_true hd) _) (hw.alloc _)
theorem yk1 {t k e : TypeId} {dk : TypeDesc} {x y : Operand} {b : Nat} {key z : Value} {zl : List Value} {m : List (Value × Value)} (hU : TU P t (.map k e)) (hV : TU P k dk) (hZ : TZ P e z zl) (hx : ev F x = some (.map (some b))) (hy : ev F y = some key)
    (hk : Kn w0 L b (MO m)) (hm : MK dk m) (hkey : MapKept.IsKey dk key) (hn : ∀ p ∈ m, p.1 ≠ key) (hd : Nat.ble (d + 1) n = true)
    (h : St n D w0 ((d, z) :: F) L (WL r P ops Q rest)) : St n D w0 F L (WL r P ops Q (⟨some d, .lookup t x y false, ty, pos, af, none⟩ :: rest)) :=
  zf3 rfl hd (fun a w ha hw => by
    have hb := hk w hw
    have h1 := MapKept.run_getObj_map (P := P) hb
    simp [execOp, Instr.lookup, ha.eval hx, ha.eval hy, zb2 (TU.h (P := P) (t := t)), h1, MapKept.run_checkKey (TU.h (P := P) (t := k)) hkey,
      MapKept.run_findKey (TU.h (P := P) (t := k)) (yd4 hm hkey hn), TZ.h (P := P) (t := e)]) h
theorem yr1 {t k e : TypeId} {dk : TypeDesc} {x y : Operand} {b : Nat} {key v : Value} {m : List (Value × Value)} (hU : TU P t (.map k e)) (hV : TU P k dk) (hx : ev F x = some (.map (some b))) (hy : ev F y = some key)
    (hk : Kn w0 L b (MO m)) (hm : MK dk m) (hkey : MapKept.IsKey dk key) (j : Nat) (hj : m[j]? = some (key, v)) (hd : Nat.ble (d + 1) n = true)
    (h : St n D w0 ((d, v) :: F) L (WL r P ops Q rest)) : St n D w0 F L (WL r P ops Q (⟨some d, .lookup t x y false, ty, pos, af, none⟩ :: rest)) :=
  zf3 rfl hd (fun a w ha hw => by
    have hb := hk w hw
    have h1 := MapKept.run_getObj_map (P := P) hb
    simp [execOp, Instr.lookup, ha.eval hx, ha.eval hy, zb2 (TU.h (P := P) (t := t)), h1, MapKept.run_checkKey (TU.h (P := P) (t := k)) hkey,
      MapKept.run_findKey (TU.h (P := P) (t := k)) (yC1 hm hkey j hj)]) h
theorem yx2 {t k e : TypeId} {dk : TypeDesc} {x y z : Operand} {b : Nat} {key v : Value} {m : List (Value × Value)} (hU : TU P t (.map k e)) (hV : TU P k dk) (hx : ev F x = some (.map (some b))) (hy : ev F y = some key) (hz : ev F z = some v)
    (hm : MK dk m) (hkey : MapKept.IsKey dk key) (hn : ∀ p ∈ m, p.1 ≠ key) (hu : Upd L b (MO m) (MO (m ++ [(key, v)])) L')
    (h : St n D w0 F L' (WL r P ops Q rest)) : St n D w0 F L (WL r P ops Q (⟨none, .mapUpdate t x y z, ty, pos, af, none⟩ :: rest)) :=
  zi0 rfl rfl fun a w ha hw => by
    have hb := hw.at hu.at
    have h1 := MapKept.run_getObj_map (P := P) hb
    have hset : MO (m ++ [(key, v)]) = .map ((zk4 0 m).toArray.push ⟨key, v, m.length⟩) (m.length + 1) := by
      simp [MO, zQ7, zk4]
    have hr : (execOp a.eval ⟨none, .mapUpdate t x y z, ty, pos, af, none⟩).run P w = .ok .skip { w with heap := w.heap.setIfInBounds b (MO (m ++ [(key, v)])) } := by
      rw [hset]
      simp [execOp, Instr.mapUpdate, ha.eval hx, ha.eval hy, ha.eval hz, zb2 (TU.h (P := P) (t := t)), h1, MapKept.run_checkKey (TU.h (P := P) (t := k)) hkey,
        MapKept.run_findKey (TU.h (P := P) (t := k)) (yd4 hm hkey hn), MapKept.run_setObj_map _ hb]
    rw [hr]
    obtain ⟨g1, g2⟩ := MapKept.heap_set (o' := MO (m ++ [(key, v)])) hb
    exact h _ _ (ha.put_none _) (hw.turn hu rfl rfl rfl (by simp) g1 g2)
def zx9 (kd : IntKind) (l : List Int) : List (Value × Value) := l.map fun x => (.int kd x, .bool true)
theorem MK.set {kd : IntKind} {l : List Int} (h : l.Nodup) : MK (.int kd) (zx9 kd l) := by
  refine ⟨fun p hp => ?_, ?_⟩
  · obtain ⟨x, _, rfl⟩ := List.mem_map.1 hp
    rfl
  · have : (zx9 kd l).map Prod.fst = l.map (fun x => Value.int kd x) := by simp [zx9, Function.comp_def]
    rw [this]
    exact List.pairwise_map.2 (h.imp fun hne e => hne (by cases e; rfl))
theorem ys5 (kd : IntKind) (l : List Int) (x : Int) : zx9 kd (l ++ [x]) = zx9 kd l ++ [(.int kd x, .bool true)] := by simp [zx9]
theorem yg1 {kd : IntKind} {l : List Int} {x : Int} (h : x ∉ l) : ∀ p ∈ zx9 kd l, p.1 ≠ .int kd x := fun p hp e => by
  obtain ⟨y, hy, rfl⟩ := List.mem_map.1 hp
  cases e; exact h hy
theorem yD7 {t k e : TypeId} {kd : IntKind} {x y : Operand} {b : Nat} {i : Int} {l : List Int} (hU : TU P t (.map k e)) (hV : TU P k (.int kd)) (hZ : TZ P e (.bool false) [.bool false]) (hx : ev F x = some (.map (some b))) (hy : ev F y = some (.int kd i))
    (hk : Kn w0 L b (MO (zx9 kd l))) (hm : l.Nodup) (hd : Nat.ble (d + 1) n = true)
    (h : St n D w0 ((d, .bool (decide (i ∈ l))) :: F) L (WL r P ops Q rest)) : St n D w0 F L (WL r P ops Q (⟨some d, .lookup t x y false, ty, pos, af, none⟩ :: rest)) := by
  by_cases hi : i ∈ l
  · obtain ⟨j, hj⟩ := List.getElem?_of_mem hi
    have e1 : decide (i ∈ l) = true := decide_eq_true hi
    rw [e1] at h
    exact yr1 hU hV hx hy hk (MK.set hm) rfl j (v := .bool true) (by simp [zx9, hj]) hd h
  · have e1 : decide (i ∈ l) = false := decide_eq_false hi
    rw [e1] at h
    exact yk1 hU hV hZ hx hy hk (MK.set hm) rfl (yg1 hi) hd h
theorem yr2 {t k e : TypeId} {kd : IntKind} {x y z : Operand} {b : Nat} {i : Int} {l : List Int} (hU : TU P t (.map k e)) (hV : TU P k (.int kd)) (hx : ev F x = some (.map (some b))) (hy : ev F y = some (.int kd i)) (hz : ev F z = some (.bool true))
    (hat : At L b (MO (zx9 kd l))) (hm : l.Nodup) (hi : i ∉ l) (hu : Upd L b (MO (zx9 kd l)) (MO (zx9 kd (l ++ [i]))) L')
    (h : St n D w0 F L' (WL r P ops Q rest)) : St n D w0 F L (WL r P ops Q (⟨none, .mapUpdate t x y z, ty, pos, af, none⟩ :: rest)) := by
  rw [ys5] at hu
  exact yx2 hU hV hx hy hz (MK.set hm) rfl (yg1 hi) hu h
end
end Go.Sx
namespace Go.Sx
open Go Go.RowKit
theorem yc7 {P : Program} {f : FuncId} {args : Array Value} {w : World} {v v' : Value} {R R' : World → Prop} (h : Calls P f args w fun e w' => e = .returned v ∧ R w')
    (h' : Calls P f args w fun e w' => e = .returned v' ∧ R' w') (hi : P.inits.idxOf? f = none) : v = v' := by
  have g : Calls P f args w fun | .returned u, w' => u = v ∧ R w' | _, _ => False := h.mono fun e w' ⟨he, q⟩ => by subst he; exact ⟨rfl, q⟩
  have g' : Calls P f args w fun | .returned u, w' => u = v' ∧ R' w' | _, _ => False := h'.mono fun e w' ⟨he, q⟩ => by subst he; exact ⟨rfl, q⟩
  obtain ⟨n, u, w1, e1, r1⟩ := g.done (R := fun u w' => u = v ∧ R w') hi
  obtain ⟨m, u', w2, e2, r2⟩ := g'.done (R := fun u w' => u = v' ∧ R' w') hi
  have a := runN_ended e1 m
  have b := runN_ended e2 n
  rw [Nat.add_comm, a] at b
  injection b with ho hw
  injection ho with hv
  rw [← r1.1, ← r2.1, hv]
def lays : Op → Bool
  | .alloc _ => true
  | .box _ _ => true
  | .buildSlice _ _ _ => true
  | .makeSlice _ _ _ => true
  | .makeMap _ _ => true
  | _ => false
def zx4 : Op → Bool
  | .store _ _ _ => true
  | _ => false
def zz0 : Op → Bool
  | .move _ => true
  | .assign _ => true
  | .pick _ _ _ => true
  | .unOp _ _ _ => true
  | .binOp _ _ _ _ _ => true
  | .extract _ _ => true
  | .field _ _ _ => true
  | .index _ _ _ => true
  | .fieldAddr _ _ _ => true
  | .indexAddr _ _ _ => true
  | .build _ _ => true
  | .slice _ _ _ _ _ => true
  | .makeFunc _ _ _ => true
  | _ => false
def zF6 (x y : Oper) : Bool := zz0 x.op || zz0 y.op || (!zx4 x.op && !zx4 y.op)
def Comes1 (P : Program) (w : World) (v : Value) : Result Next → Prop
  | .ok (.value u) w' => w' = w ∧ u = v
  | .ok .skip w' => w' = w ∧ v = undef
  | .ok (.enter f args) w' => w' = w ∧ P.inits.idxOf? f = none ∧ Calls P f args w (fun e w'' => e = .returned v ∧ Below w.heap.size w w'')
  | _ => False
def zJ5 (P : Program) (w : World) (φ : Value → List Ent → Prop) : Result Next → Prop
  | .ok (.enter f args) w' => w' = w ∧ Calls P f args w (fun e w'' => ∃ u M, e = .returned u ∧ φ u M ∧ Rep w w'' M ∧ ∀ x ∈ M, x.own = true)
  | .ok (.value u) w'' => ∃ M, φ u M ∧ Rep w w'' M ∧ ∀ x ∈ M, x.own = true
  | _ => False
def zU7 (H M : List Ent) : Prop := ∀ x ∈ H, ∃ y ∈ M, y.b = x.b
def zJ4 (w0 w : World) (H : List Ent) (φ : Value → List Ent → Prop) : Result Next → Prop
  | .ok (.value u) w'' => ∃ M, φ u M ∧ zU7 H M ∧ (∀ x ∈ M, x.own = true) ∧ ∀ X, Rep w0 w (H ++ X) → Rep w0 w'' (M ++ X)
  | _ => False
def zQ4 : Op → Bool
  | .call ⟨.builtin .append, _, _⟩ => true
  | _ => false
theorem yC6 {op : Op} (h : zQ4 op = true) : zz0 op = false ∧ lays op = false ∧ zx4 op = false := by cases op <;> simp_all [zx4, zz0, zQ4, lays]
theorem zO0 {op : Op} (h : zx4 op = true) : zz0 op = false := by cases op <;> simp_all [zx4, zz0]
theorem Comes1.uniq {P : Program} {w : World} {v v' : Value} {r : Result Next} (h : Comes1 P w v r) (h' : Comes1 P w v' r) : v' = v := by
  cases r with
  | ok nx w1 =>
    cases nx <;> simp only [Comes1] at h h'
    case value u => rw [← h.2, ← h'.2]
    case skip => rw [h.2, h'.2]
    case enter f args => exact yc7 h'.2.2 h.2.2 h.2.1
  | halt x w1 => simp only [Comes1] at h
abbrev zd1 := Nat → Option (List Ent)
def upd (N : zd1) (i : Nat) (ob : Option (List Ent)) : zd1 := fun j => if j = i then ob else N j
theorem yz6 {N : zd1} {i j : Nat} {x y : Option (List Ent)} (h : i ≠ j) : upd (upd N i x) j y = upd (upd N j y) i x := by
  funext k
  simp only [upd]
  by_cases h1 : k = j
  · by_cases h2 : k = i
    · omega
    · simp [h1, show ¬ j = i from by omega]
  · simp [h1]
theorem zz1 {k j : Nat} {ks : List Nat} (h : j ∉ ks) (hk : k ∈ ks) : k ≠ j := fun e => h (e ▸ hk)
theorem upd_same {N : zd1} {i : Nat} {x : Option (List Ent)} : upd N i x i = x := by simp [upd]
theorem zd4 {N : zd1} {i j : Nat} {x : Option (List Ent)} (h : j ≠ i) : upd N i x j = N j := by simp [upd, h]
theorem Upd.left {L L' R : List Ent} {b : Nat} {o o' : Obj} (h : Upd L b o o' L') : Upd (L ++ R) b o o' (L' ++ R) := by
  induction h with
  | hd => exact .hd
  | tl _ ih => exact .tl ih
theorem Upd.own {L L' : List Ent} {b : Nat} {o o' : Obj} (h : Upd L b o o' L') (ho : ∀ x ∈ L, x.own = true) : ∀ x ∈ L', x.own = true := by
  induction h with
  | @hd b o o' f L =>
    intro x hx
    rcases List.mem_cons.1 hx with rfl | hx
    · have := ho ⟨b, o, f⟩ List.mem_cons_self
      exact this
    · exact ho x (List.mem_cons_of_mem _ hx)
  | tl _ ih =>
    intro x hx
    rcases List.mem_cons.1 hx with rfl | hx
    · exact ho _ List.mem_cons_self
    · exact ih (fun y hy => ho y (List.mem_cons_of_mem _ hy)) x hx
def fam (N : zd1) (js : List Nat) : List Ent := js.flatMap fun j => (N j).getD []
structure RepN (w0 w : World) (N : zd1) (L : List Ent) : Prop where
  own : ∀ i M, N i = some M → ∀ x ∈ M, x.own = true
  all : ∀ js : List Nat, js.Nodup → (∀ j ∈ js, N j ≠ none) → Rep w0 w (fam N js ++ L)
theorem zw9 {N N' : zd1} {js : List Nat} (h : ∀ j ∈ js, N' j = N j) : fam N' js = fam N js := by
  induction js with
  | nil => rfl
  | cons j js ih =>
    simp only [fam, List.flatMap_cons] at ih ⊢
    rw [h j List.mem_cons_self, ih (fun k hk => h k (List.mem_cons_of_mem _ hk))]
theorem zQ0 {N : zd1} {js ks : List Nat} (h : js.Perm ks) : (fam N js).Perm (fam N ks) := h.flatMap_right _
theorem zt0 {N : zd1} {j : Nat} {js : List Nat} {M : List Ent} (h : N j = some M) : fam N (j :: js) = M ++ fam N js := by simp [fam, h]
section
variable {w0 w w' : World} {N N' : zd1} {L L' : List Ent}
theorem RepN.rep (h : RepN w0 w N L) : Rep w0 w L := by simpa [fam] using h.all [] List.nodup_nil (by simp)
theorem RepN.sub (h : RepN w0 w N L) (hs : ∀ j, N' j ≠ none → N' j = N j) : RepN w0 w N' L :=
  ⟨fun i M hi => h.own i M (by rw [← hs i (by rw [hi]; simp)]; exact hi), fun js hn hj => by
    rw [zw9 (N := N) (fun j hjs => hs j (hj j hjs))]
    exact h.all js hn (fun j hjs => by rw [← hs j (hj j hjs)]; exact hj j hjs)⟩
theorem RepN.grow (h : RepN w0 w N L) (hb : Below w.heap.size w w') : RepN w0 w' N L := ⟨h.own, fun js hn hj => (h.all js hn hj).grow hb⟩
theorem RepN.add {i : Nat} {M : List Ent} (h : RepN w0 w N L) (hi : N i = none) (hM : Rep w w' M) (ho : ∀ x ∈ M, x.own = true) : RepN w0 w' (upd N i (some M)) L := by
  refine ⟨fun k M' hk => ?_, fun js hn hj => ?_⟩
  · by_cases e : k = i
    · subst e; rw [upd_same] at hk; cases hk; exact ho
    · rw [zd4 e] at hk; exact h.own k M' hk
  · have hoth : ∀ ks : List Nat, (∀ k ∈ ks, k ∈ js) → i ∉ ks → ks.Nodup → Rep w0 w' (M ++ (fam (upd N i (some M)) ks ++ L)) := fun ks hks hik hkn => by
      rw [zw9 (N := N) (fun k hk => zd4 (zz1 hik hk))]
      refine (h.all ks hkn (fun k hk => ?_)).beside hM ho
      have := hj k (hks k hk)
      rwa [zd4 (zz1 hik hk)] at this
    by_cases him : i ∈ js
    · have hp := List.perm_cons_erase him
      have hne : i ∉ js.erase i := fun hm => by
        have := (hp.nodup_iff.1 hn)
        exact (List.nodup_cons.1 this).1 hm
      have h1 := hoth (js.erase i) (fun k hk => List.mem_of_mem_erase hk) hne (hn.erase i)
      refine h1.perm ?_
      rw [← List.append_assoc]
      refine List.Perm.append_right L ?_
      rw [← zt0 (N := upd N i (some M)) (j := i) upd_same]
      exact (zQ0 hp).symm
    · exact (hoth js (fun k hk => hk) him hn).sub (HSub.dropL ho HSub.same)
theorem RepN.turnL {b : Nat} {x y : Obj} (h : RepN w0 w N L) (hu : Upd L b x y L') (h1 : w'.os = w.os) (h2 : w'.tape = w.tape) (h3 : w'.output = w.output)
    (h4 : w'.heap.size = w.heap.size) (h5 : w'.heap[b]? = some y) (h6 : ∀ k : Nat, k ≠ b → w'.heap[k]? = w.heap[k]?) : RepN w0 w' N L' :=
  ⟨h.own, fun js hn hj => (h.all js hn hj).turn hu.right h1 h2 h3 h4 h5 h6⟩
theorem RepN.turnN {j : Nat} {b : Nat} {x y : Obj} {M M0 M0' R : List Ent} (h : RepN w0 w N L) (hj : N j = some M) (hp : M.Perm (M0 ++ R)) (hu : Upd M0 b x y M0') (h1 : w'.os = w.os) (h2 : w'.tape = w.tape) (h3 : w'.output = w.output)
    (h4 : w'.heap.size = w.heap.size) (h5 : w'.heap[b]? = some y) (h6 : ∀ k : Nat, k ≠ b → w'.heap[k]? = w.heap[k]?) : RepN w0 w' (upd N j (some (M0' ++ R))) L := by
  have hoM := h.own j M hj
  have ho : ∀ z ∈ M0' ++ R, z.own = true := by
    intro z hz
    rcases List.mem_append.1 hz with hz | hz
    · exact hu.own (fun q hq => hoM q (hp.mem_iff.2 (List.mem_append_left _ hq))) z hz
    · exact hoM z (hp.mem_iff.2 (List.mem_append_right _ hz))
  refine ⟨fun k M' hk => ?_, fun js hn hjs => ?_⟩
  · by_cases e : k = j
    · subst e; rw [upd_same] at hk; cases hk; exact ho
    · rw [zd4 e] at hk; exact h.own k M' hk
  · have key : ∀ ks : List Nat, j ∉ ks → ks.Nodup → (∀ k ∈ ks, N k ≠ none) → Rep w0 w' ((M0' ++ R) ++ (fam (upd N j (some (M0' ++ R))) ks ++ L)) := fun ks hjk hkn hk => by
      rw [zw9 (N := N) (fun k hkk => zd4 (zz1 hjk hkk))]
      have h7 := h.all (j :: ks) (List.nodup_cons.2 ⟨hjk, hkn⟩) (fun k hkk => by
        rcases List.mem_cons.1 hkk with rfl | hkk
        · rw [hj]; simp
        · exact hk k hkk)
      rw [zt0 hj, List.append_assoc] at h7
      have h8 := h7.perm (hp.append_right _)
      exact h8.turn (hu.left.left) h1 h2 h3 h4 h5 h6
    by_cases him : j ∈ js
    · have hpj := List.perm_cons_erase him
      have hne : j ∉ js.erase j := fun hm => (List.nodup_cons.1 (hpj.nodup_iff.1 hn)).1 hm
      have h7 := key (js.erase j) hne (hn.erase j) (fun k hk => by
        have := hjs k (List.mem_of_mem_erase hk)
        rwa [zd4 (zz1 hne hk)] at this)
      refine h7.perm ?_
      rw [← List.append_assoc]
      refine List.Perm.append_right L ?_
      rw [← zt0 (N := upd N j (some (M0' ++ R))) (j := j) upd_same]
      exact (zQ0 hpj).symm
    · have h7 := key js him hn (fun k hk => by
        have := hjs k hk
        rwa [zd4 (zz1 him hk)] at this)
      exact h7.sub (HSub.dropL ho HSub.same)
end
def upB (md : Region.Mode) (j : Nat) (T : List Nat) : List Edge → Nat
  | [] => 0
  | e :: es => (bif Region.binds md e && Nat.blt e.on j then Nat.lor (Nat.shiftLeft 1 e.on) (T.getD e.on 0) else 0) ||| upB md j T es
def yG3 (md : Region.Mode) : List Oper → Nat → List Nat → List Nat
  | [], _, acc => acc
  | o :: os, j, acc => yG3 md os (j + 1) (acc ++ [upB md j acc o.after.toList])
def anc (ops : Array Oper) : List Nat := yG3 .any ops.toList 0 []
def zU8 (md : Region.Mode) (ops : Array Oper) (T : List Nat) : Bool :=
  (List.range ops.size).all fun j => match ops[j]? with
    | some o => Nat.beq (Nat.lor (T.getD j 0) (upB md j T o.after.toList)) (upB md j T o.after.toList)
    | none => true
theorem yh3 {md : Region.Mode} {j i : Nat} {T : List Nat} : ∀ {es : List Edge}, (upB md j T es).testBit i = true → ∃ e ∈ es, Region.binds md e = true ∧ e.on < j ∧ (e.on = i ∨ (T.getD e.on 0).testBit i = true)
  | [], h => by simp [upB] at h
  | e :: es, h => by
    simp only [upB, Nat.testBit_or, Bool.or_eq_true] at h
    rcases h with h | h
    · cases hc : (Region.binds md e && Nat.blt e.on j) with
      | false => rw [hc] at h; simp at h
      | true =>
        rw [hc] at h
        simp only [Bool.and_eq_true] at hc
        have hlt : e.on < j := by simpa [Nat.blt_eq] using hc.2
        refine ⟨e, List.mem_cons_self, hc.1, hlt, ?_⟩
        have h' : (1 <<< e.on ||| T.getD e.on 0).testBit i = true := h
        rw [Nat.testBit_or, Bool.or_eq_true] at h'
        rcases h' with h' | h'
        · left
          rw [Nat.one_shiftLeft, Nat.testBit_two_pow] at h'
          simpa using h'
        · exact .inr h'
    · obtain ⟨e', he, hr⟩ := yh3 h
      exact ⟨e', List.mem_cons_of_mem _ he, hr⟩
theorem yi3 {md : Region.Mode} {ops : Array Oper} {T : List Nat} (h : zU8 md ops T = true) {j i : Nat} {o : Oper} (hj : ops[j]? = some o) (hi : (T.getD j 0).testBit i = true) :
    ∃ e ∈ o.after, Region.binds md e = true ∧ e.on < j ∧ (e.on = i ∨ (T.getD e.on 0).testBit i = true) := by
  simp only [zU8, List.all_eq_true, List.mem_range] at h
  have h1 := h j (Array.getElem?_eq_some_iff.1 hj).1
  simp only [hj] at h1
  have h2 : (T.getD j 0) ||| (upB md j T o.after.toList) = upB md j T o.after.toList := Nat.eq_of_beq_eq_true h1
  have h3 : (upB md j T o.after.toList).testBit i = true := by rw [← h2, Nat.testBit_or, hi, Bool.true_or]
  obtain ⟨e, he, hr⟩ := yh3 h3
  exact ⟨e, by simpa using he, hr⟩
theorem yi4 {md : Region.Mode} {ops : Array Oper} {T : List Nat} {listed : Array Bool} (hT : zU8 md ops T = true) (hcl : ∀ (j : Nat) oj, ops[j]? = some oj → listed.getD j false = true → ∀ e ∈ oj.after, Region.binds md e = true → listed.getD e.on false = true)
    (hsz : listed.size = ops.size) : ∀ (j : Nat) (i : Nat) (o : Oper), ops[j]? = some o → (∀ e ∈ o.after, Region.binds md e = true → listed.getD e.on false = true) → (T.getD j 0).testBit i = true → listed.getD i false = true := by
  intro j
  induction j using Nat.strongRecOn with
  | _ j ih =>
    intro i o ho hall hi
    obtain ⟨e, he, hb, hlt, h | h⟩ := yi3 hT ho hi
    · rw [← h]; exact hall e he hb
    · have hl := hall e he hb
      have hin : e.on < ops.size := by
        have := (Array.getElem?_eq_some_iff.1 ho).1
        omega
      exact ih e.on hlt i ops[e.on] (Array.getElem?_eq_getElem hin) (hcl e.on _ (Array.getElem?_eq_getElem hin) hl) h
def rst (T : List Nat) (i : Nat) (N : zd1) : zd1 := fun j => bif (T.getD i 0).testBit j then N j else none
theorem yF3 {T : List Nat} {i j : Nat} {N : zd1} {ob : Option (List Ent)} (h : (T.getD i 0).testBit j = false) : rst T i (upd N j ob) = rst T i N := by
  funext k
  simp only [rst]
  by_cases e : k = j
  · subst e; rw [h]; rfl
  · rw [zd4 e]
theorem zE0 {T : List Nat} {i : Nat} {N : zd1} : ∀ j, rst T i N j ≠ none → rst T i N j = N j := fun j hj => by
  simp only [rst] at hj ⊢
  cases h : (T.getD i 0).testBit j with
  | true => rfl
  | false => rw [h] at hj; exact absurd rfl hj
structure zf2 where
  f : Nat → Option (Value → List Ent → Prop)
  rv : Option (Nat × List Ent)
  ho : ∀ p, rv = some p → ∀ x ∈ p.2, x.own = true
instance : CoeFun zf2 (fun _ => Nat → Option (Value → List Ent → Prop)) := ⟨zf2.f⟩
def yy9 : List (Nat × (Value → List Ent → Prop)) → Nat → Option (Value → List Ent → Prop)
  | [], _ => none
  | (j, φ) :: l, k => bif Nat.beq j k then some φ else yy9 l k
def spec (l : List (Nat × (Value → List Ent → Prop))) : zf2 := ⟨yy9 l, none, fun _ h => by cases h⟩
def yH3 (i : Nat) (H : List Ent) (hH : ∀ x ∈ H, x.own = true) (l : List (Nat × (Value → List Ent → Prop))) : zf2 := ⟨yy9 l, some (i, H), fun p h => by cases h; exact hH⟩
def rvO (ops : Array Oper) (Φ : zf2) : Option (Nat × List Ent) :=
  match Φ.rv with
  | none => none
  | some (j, H) => match ops[j]? with
    | some o => bif zQ4 o.op then some (j, H) else none
    | none => none
def zN5 (Φ : zf2) (o : Oper) (i : Nat) : Option (List Ent) :=
  match Φ.rv with
  | none => none
  | some (j, H) => bif zQ4 o.op && Nat.beq j i then some H else none
def zk3 (ops : Array Oper) (Φ : zf2) (N : zd1) : List Ent :=
  match rvO ops Φ with
  | none => []
  | some (j, H) => bif (N j).isNone then H else []
theorem yF5 {ops : Array Oper} {Φ : zf2} {p : Nat × List Ent} (h : rvO ops Φ = some p) : ∀ x ∈ p.2, x.own = true := by
  unfold rvO at h
  revert h
  cases hr : Φ.rv with
  | none => intro h; cases h
  | some q =>
    obtain ⟨j, H⟩ := q
    simp only []
    split
    · rename_i o _
      cases zQ4 o.op with
      | true => intro h; simp only [cond_true] at h; cases h; exact Φ.ho _ hr
      | false => intro h; cases h
    · intro h; cases h
theorem zS2 {ops : Array Oper} {Φ : zf2} {o : Oper} {i : Nat} (ho : ops[i]? = some o) (H : List Ent) : zN5 Φ o i = some H ↔ rvO ops Φ = some (i, H) := by
  unfold zN5 rvO
  cases hr : Φ.rv with
  | none => simp
  | some q =>
    obtain ⟨j, H'⟩ := q
    simp only []
    by_cases e : j = i
    · subst e
      simp only [ho, Nat.beq_refl, Bool.and_true]
      cases zQ4 o.op <;> simp
    · have hb : Nat.beq j i = false := by
        cases hb : Nat.beq j i
        · rfl
        · exact absurd (Nat.eq_of_beq_eq_true hb) e
      simp only [hb, Bool.and_false, cond_false]
      constructor
      · intro h; cases h
      · split
        · rename_i o' _
          cases zQ4 o'.op with
          | true => intro h; simp only [cond_true] at h; cases h; exact absurd rfl e
          | false => intro h; cases h
        · intro h; cases h
theorem zq9 {ops : Array Oper} {Φ : zf2} {N : zd1} : ∀ x ∈ zk3 ops Φ N, x.own = true := by
  unfold zk3
  split
  · simp
  · rename_i p j H hr
    cases (N j).isNone with
    | true => simpa using yF5 hr
    | false => simp
theorem zD7 {ops : Array Oper} {Φ : zf2} {N : zd1} {i : Nat} {H : List Ent} (h : rvO ops Φ = some (i, H)) (hN : N i = none) : zk3 ops Φ N = H := by
  unfold zk3; rw [h]; simp [hN]
theorem zK6 {ops : Array Oper} {Φ : zf2} {N : zd1} {i : Nat} {H M : List Ent} (h : rvO ops Φ = some (i, H)) (hN : N i = some M) : zk3 ops Φ N = [] := by
  unfold zk3; rw [h]; simp [hN]
theorem yw2 {ops : Array Oper} {Φ : zf2} {N N' : zd1} (h : ∀ j, N' j = none ↔ N j = none) : zk3 ops Φ N' = zk3 ops Φ N := by
  unfold zk3
  split
  · rfl
  · rename_i p j H hr
    have : (N' j).isNone = (N j).isNone := by
      cases h1 : N' j with
      | none => rw [(h j).1 h1]
      | some M =>
        cases h2 : N j with
        | none => rw [(h j).2 h2] at h1; cases h1
        | some M' => rfl
    rw [this]
theorem yw3 {ops : Array Oper} {Φ : zf2} {N N' : zd1} (h : ∀ j, N j ≠ none → N' j ≠ none) : zk3 ops Φ N' = zk3 ops Φ N ∨ zk3 ops Φ N' = [] := by
  unfold zk3
  split
  · exact .inl rfl
  · rename_i p j H hr
    cases h1 : N' j with
    | some M => exact .inr rfl
    | none =>
      cases h2 : N j with
      | none => exact .inl rfl
      | some M => exact absurd h1 (h j (by rw [h2]; simp))
theorem RepN.unmask {w0 w : World} {N : zd1} {H L : List Ent} (h : RepN w0 w N (H ++ L)) (ho : ∀ x ∈ H, x.own = true) : RepN w0 w N L :=
  ⟨h.own, fun js hn hj => (h.all js hn hj).sub (by
    refine ⟨H, ?_, ho⟩
    rw [List.append_assoc]
    exact List.Perm.append_left _ List.perm_append_comm)⟩
theorem RepN.remask {ops : Array Oper} {Φ : zf2} {w0 w : World} {N N' : zd1} {L : List Ent} (h : RepN w0 w N' (zk3 ops Φ N ++ L)) (hs : ∀ j, N j ≠ none → N' j ≠ none) : RepN w0 w N' (zk3 ops Φ N' ++ L) := by
  rcases yw3 (ops := ops) (Φ := Φ) hs with e | e
  · rw [e]; exact h
  · rw [e]; exact h.unmask zq9
theorem zy3 {N : zd1} {i : Nat} {M : List Ent} : ∀ j, N j ≠ none → upd N i (some M) j ≠ none := fun j hj => by
  by_cases e : j = i
  · subst e; rw [upd_same]; simp
  · rw [zd4 e]; exact hj
theorem RepN.turnA {w0 w w' : World} {N : zd1} {H M L : List Ent} {i : Nat} (h : RepN w0 w N (H ++ L)) (hi : N i = none) (ho : ∀ x ∈ M, x.own = true) (hX : ∀ X, Rep w0 w (H ++ X) → Rep w0 w' (M ++ X)) : RepN w0 w' (upd N i (some M)) L := by
  have hoth : ∀ ks : List Nat, (∀ k ∈ ks, upd N i (some M) k ≠ none) → i ∉ ks → ks.Nodup → Rep w0 w' (M ++ (fam (upd N i (some M)) ks ++ L)) := fun ks hks hik hkn => by
    rw [zw9 (N := N) (fun k hk => zd4 (zz1 hik hk))]
    refine hX _ ((h.all ks hkn (fun k hk => ?_)).perm ?_)
    · have := hks k hk
      rwa [zd4 (zz1 hik hk)] at this
    · rw [← List.append_assoc, ← List.append_assoc]
      exact List.Perm.append_right L List.perm_append_comm
  refine ⟨fun k M' hk => ?_, fun js hn hj => ?_⟩
  · by_cases e : k = i
    · subst e; rw [upd_same] at hk; cases hk; exact ho
    · rw [zd4 e] at hk; exact h.own k M' hk
  · by_cases him : i ∈ js
    · have hp := List.perm_cons_erase him
      have hne : i ∉ js.erase i := fun hm => (List.nodup_cons.1 (hp.nodup_iff.1 hn)).1 hm
      have h1 := hoth (js.erase i) (fun k hk => hj k (List.mem_of_mem_erase hk)) hne (hn.erase i)
      refine h1.perm ?_
      rw [← List.append_assoc]
      refine List.Perm.append_right L ?_
      rw [← zt0 (N := upd N i (some M)) (j := i) upd_same]
      exact (zQ0 hp).symm
    · exact (hoth js hj him hn).sub (HSub.dropL ho HSub.same)
def zn7 (w : World) : List Ent → World
  | [] => w
  | x :: G => zn7 (zl6 w x.b x.o) G
theorem zM5 : ∀ (G : List Ent) (w : World), (zn7 w G).heap.size = w.heap.size
  | [], _ => rfl
  | x :: G, w => by rw [zn7, zM5 G]; simp [zl6]
theorem zM4 : ∀ (G : List Ent) (w : World), (zn7 w G).os = w.os ∧ (zn7 w G).tape = w.tape ∧ (zn7 w G).output = w.output
  | [], _ => ⟨rfl, rfl, rfl⟩
  | x :: G, w => by rw [zn7]; exact zM4 G _
theorem zz3 : ∀ (G : List Ent) (w : World) (k : Nat), (∀ x ∈ G, x.b ≠ k) → (zn7 w G).heap[k]? = w.heap[k]?
  | [], _, _, _ => rfl
  | x :: G, w, k, h => by
    rw [zn7, zz3 G _ k (fun y hy => h y (List.mem_cons_of_mem _ hy))]
    have := h x List.mem_cons_self
    simp [zl6, this]
theorem zW8 : ∀ (G : List Ent) (w : World), (G.map Ent.b).Nodup → ∀ x ∈ G, x.b < w.heap.size → (zn7 w G).heap[x.b]? = some x.o
  | [], _, _, x, hx, _ => by cases hx
  | y :: G, w, hnd, x, hx, hlt => by
    simp only [List.map_cons, List.nodup_cons] at hnd
    rcases List.mem_cons.1 hx with rfl | hx
    · rw [zn7, zz3 G _ _ (fun z hz e => hnd.1 (List.mem_map.2 ⟨z, hz, e⟩))]
      simp [zl6, hlt]
    · rw [zn7]
      exact zW8 G _ hnd.2 x hx (by simpa [zl6] using hlt)
theorem Rep.back {w0 w : World} {M R H : List Ent} (h : Rep w0 w (M ++ R)) (hM : ∀ x ∈ M, x.own = true) (hid : zU7 H M) (hnd : (H.map Ent.b).Nodup) : Rep w0 (zn7 w H) (H ++ R) := by
  have h1 := h.nd
  rw [List.map_append, List.nodup_append] at h1
  have hfar : ∀ x ∈ R, ∀ y ∈ H, y.b ≠ x.b := fun x hx y hy e => by
    obtain ⟨z, hz, e2⟩ := hid y hy
    exact h1.2.2 z.b (List.mem_map.2 ⟨z, hz, rfl⟩) x.b (List.mem_map.2 ⟨x, hx, rfl⟩) (by rw [e2, e])
  have hlow : ∀ y ∈ H, w0.heap.size ≤ y.b ∧ y.b < w.heap.size := fun y hy => by
    obtain ⟨z, hz, e2⟩ := hid y hy
    have := h.own z (List.mem_append_left _ hz) (hM z hz)
    have := h.lt (List.mem_append_left R hz)
    omega
  obtain ⟨r1, r2, r3⟩ := zM4 H w
  refine ⟨r1.trans h.os, r2.trans h.tape, r3.trans h.output, by rw [zM5]; exact h.size, fun x hx => ?_, fun x hx ho => ?_, ?_, fun b hb hx => ?_⟩
  · rcases List.mem_append.1 hx with hx | hx
    · exact zW8 H w hnd x hx (hlow x hx).2
    · rw [zz3 H w x.b (hfar x hx)]
      exact h.ok x (List.mem_append_right _ hx)
  · rcases List.mem_append.1 hx with hx | hx
    · exact (hlow x hx).1
    · exact h.own x (List.mem_append_right _ hx) ho
  · rw [List.map_append, List.nodup_append]
    refine ⟨hnd, h1.2.1, fun a ha b hb e => ?_⟩
    obtain ⟨y, hy, rfl⟩ := List.mem_map.1 ha
    obtain ⟨x, hx, rfl⟩ := List.mem_map.1 hb
    exact hfar x hx y hy e
  · rw [zz3 H w b (fun y hy => hx y (List.mem_append_left _ hy))]
    refine h.frame b hb fun x hxa e => ?_
    rcases List.mem_append.1 hxa with hxa | hxa
    · have := h.own x (List.mem_append_left _ hxa) (hM x hxa); omega
    · exact hx x (List.mem_append_right _ hxa) e
theorem RepN.back {w0 w : World} {N : zd1} {H M L : List Ent} {i : Nat} (h : RepN w0 w (upd N i (some M)) L) (hi : N i = none) (hid : zU7 H M) (hnd : (H.map Ent.b).Nodup) : RepN w0 (zn7 w H) N (H ++ L) := by
  have hM := h.own i M upd_same
  refine ⟨fun k M' hk => h.own k M' (by rw [zd4 (fun e => by subst e; rw [hi] at hk; cases hk)]; exact hk), fun js hn hj => ?_⟩
  have hni : i ∉ js := fun hm => hj i hm hi
  have h1 := h.all (i :: js) (List.nodup_cons.2 ⟨hni, hn⟩) (fun k hk => by
    rcases List.mem_cons.1 hk with rfl | hk
    · rw [upd_same]; simp
    · rw [zd4 (zz1 hni hk)]; exact hj k hk)
  rw [zt0 upd_same, zw9 (N := N) (fun k hk => zd4 (zz1 hni hk)), List.append_assoc] at h1
  refine (h1.back hM hid hnd).perm ?_
  rw [← List.append_assoc, ← List.append_assoc]
  exact List.Perm.append_right L List.perm_append_comm
section
variable {P : Program} {ops : Array Oper} {md : Region.Mode} {w0 : World} {T : List Nat} {Φ : zf2}
def Inh (ops : Array Oper) (Φ : zf2) (w0 : World) (N : zd1) (L : List Ent) : Prop := ∃ w, RepN w0 w N (zk3 ops Φ N ++ L)
def app (N : zd1) (i : Nat) : Option (List Ent) → zd1
  | none => N
  | some M => upd N i (some M)
theorem zO5 {N : zd1} {i j : Nat} {x y : Option (List Ent)} (h : i ≠ j) : app (app N i x) j y = app (app N j y) i x := by
  cases x <;> cases y <;> simp only [app]
  exact yz6 h
theorem zO1 {T : List Nat} {i j : Nat} {N : zd1} {x : Option (List Ent)} (h : (T.getD i 0).testBit j = false) : rst T i (app N j x) = rst T i N := by
  cases x with
  | none => rfl
  | some M => exact yF3 h
theorem zi2 {N : zd1} {i j : Nat} {x : Option (List Ent)} (h : j ≠ i) : app N i x j = N j := by
  cases x with
  | none => rfl
  | some M => exact zd4 h
theorem yu5 {N : zd1} {i j : Nat} {x y : Option (List Ent)} (hij : i ≠ j) (hj : N j = none) : ∀ k, app N i x k ≠ none → app N i x k = app (app N j y) i x k := by
  intro k hk
  by_cases e : k = i
  · subst e
    cases x with
    | none =>
      simp only [app] at hk ⊢
      exact (zi2 hij).symm
    | some M => simp [app, upd_same]
  · rw [zi2 e] at hk ⊢
    rw [zi2 e]
    by_cases e2 : k = j
    · subst e2; exact absurd hj hk
    · rw [zi2 e2]
theorem Inh.drop {N : zd1} {L : List Ent} {i j : Nat} {x y : Option (List Ent)} (hij : i ≠ j) (hj : N j = none) (hinh : Inh ops Φ w0 N L) (hids : ∀ H M, rvO ops Φ = some (j, H) → y = some M → zU7 H M) (h : Inh ops Φ w0 (app (app N j y) i x) L) : Inh ops Φ w0 (app N i x) L := by
  obtain ⟨w, hw⟩ := h
  by_cases hrv : ∃ H M, rvO ops Φ = some (j, H) ∧ y = some M
  · obtain ⟨H, M, hr, rfl⟩ := hrv
    have hNj : app N i x j = none := by rw [zi2 (Ne.symm hij)]; exact hj
    obtain ⟨w1, hw1⟩ := hinh
    rw [zD7 hr hj] at hw1
    have hnd : (H.map Ent.b).Nodup := by
      have := hw1.rep.nd
      rw [List.map_append, List.nodup_append] at this
      exact this.1
    have hg : app (app N j (some M)) i x j = some M := by
      rw [zi2 (Ne.symm hij)]
      simp [app, upd_same]
    rw [zK6 hr hg, List.nil_append] at hw
    rw [zO5 (Ne.symm hij)] at hw
    simp only [app] at hw
    refine ⟨zn7 w H, ?_⟩
    rw [zD7 hr hNj]
    exact RepN.back hw hNj (hids H M hr rfl) hnd
  · have hsame : zk3 ops Φ (app (app N j y) i x) = zk3 ops Φ (app N i x) := by
      unfold zk3
      cases hr : rvO ops Φ with
      | none => rfl
      | some q =>
        obtain ⟨j', H⟩ := q
        simp only []
        by_cases e : j' = j
        · subst e
          cases y with
          | none => rfl
          | some M => exact absurd ⟨H, M, hr, rfl⟩ hrv
        · have : app (app N j y) i x j' = app N i x j' := by
            by_cases e2 : j' = i
            · subst e2
              cases x with
              | none => simp only [app]; exact zi2 e
              | some M => simp [app, upd_same]
            · rw [zi2 e2, zi2 e2, zi2 e]
          rw [this]
    rw [hsame] at hw
    exact ⟨w, hw.sub (yu5 hij hj)⟩
def Safe (P : Program) (ops : Array Oper) (w0 : World) (T : List Nat) (Φ : zf2) (i : Nat) (o : Oper) (a : Act) (N : zd1) (L : List Ent) : Prop :=
  if Region.wanted o (yielded ops a.tmps) = true then
    nd o.op = true ∧ (if zz0 o.op = true then ∃ v, ∀ w, (execOp a.eval o).run P w = .ok (.value v) w
      else if lays o.op = true then ∃ (vf : Nat → Value) (x : Obj), ∀ w, (execOp a.eval o).run P w = .ok (.value (vf w.heap.size)) (w.alloc x)
      else match Φ i with
        | none => ∃ v, ∀ w, RepN w0 w (rst T i N) L → Comes1 P w v ((execOp a.eval o).run P w)
        | some φ => match zN5 Φ o i with
          | none => ∀ w, RepN w0 w (rst T i N) L → zJ5 P w φ ((execOp a.eval o).run P w)
          | some H => ∀ w, RepN w0 w (rst T i N) (H ++ L) → zJ4 w0 w H φ ((execOp a.eval o).run P w))
  else True
def OutM (P : Program) (ops : Array Oper) (w0 : World) (T : List Nat) (Φ : zf2) (i : Nat) (o : Oper) (a : Act) (N : zd1) (L : List Ent) (u : Value) (Mo : Option (List Ent)) : Prop :=
  if Region.wanted o (yielded ops a.tmps) = true then
    (if zz0 o.op = true then (∀ w, (execOp a.eval o).run P w = .ok (.value u) w) ∧ Mo = none
      else if lays o.op = true then ∃ (vf : Nat → Value) (x : Obj) (b : Nat), (∀ w, (execOp a.eval o).run P w = .ok (.value (vf w.heap.size)) (w.alloc x)) ∧ u = vf b ∧ Mo = some [⟨b, x, true⟩]
      else match Φ i with
        | none => (∀ w, RepN w0 w (rst T i N) L → Comes1 P w u ((execOp a.eval o).run P w)) ∧ Mo = none
        | some φ => ∃ M, φ u M ∧ Mo = some M ∧ ∀ H, zN5 Φ o i = some H → zU7 H M)
  else u = undef ∧ Mo = none
def zt1 (P : Program) (ops : Array Oper) (w0 : World) (T : List Nat) (Φ : zf2) (o : Oper) (i : Nat) (K : Act → zd1 → List Ent → Prop) (a : Act) (N : zd1) (L : List Ent) : Prop :=
  if (Region.wanted o (yielded ops a.tmps) && zx4 o.op) = true then
    nd o.op = true ∧ ∃ N' L', (∀ j, N' j = none ↔ N j = none) ∧ (∀ w, RepN w0 w N (zk3 ops Φ N ++ L) → ∃ w', (execOp a.eval o).run P w = .ok .skip w' ∧ RepN w0 w' N' (zk3 ops Φ N' ++ L')) ∧ K (a.put o.dst undef) N' L'
  else Safe P ops w0 T Φ i o a N L ∧ ∀ u Mo, OutM P ops w0 T Φ i o a N L u Mo → Inh ops Φ w0 (app N i Mo) L → K (a.put o.dst u) (app N i Mo) L
def gOp (P : Program) (ops : Array Oper) (w0 : World) (T : List Nat) (Φ : zf2) (i : Nat) (K : Act → zd1 → List Ent → Prop) (a : Act) (N : zd1) (L : List Ent) : Prop :=
  match ops[i]? with
  | none => K a N L
  | some o => zt1 P ops w0 T Φ o i K a N L
theorem zQ2 {i : Nat} {K K' : Act → zd1 → List Ent → Prop} {a : Act} {N : zd1} {L : List Ent} (hinh : Inh ops Φ w0 N L) (h : ∀ a N' L', (∀ k, k ≠ i → N k = none → N' k = none) → Inh ops Φ w0 N' L' → K a N' L' → K' a N' L') (hh : gOp P ops w0 T Φ i K a N L) : gOp P ops w0 T Φ i K' a N L := by
  unfold gOp at *
  split
  · rename_i ho; simp only [ho] at hh; exact h _ _ _ (fun k _ hk => hk) hinh hh
  · rename_i o ho
    simp only [ho, zt1] at hh ⊢
    split
    · rename_i hw
      rw [if_pos hw] at hh
      obtain ⟨h0, N', L', h1, h2, h3⟩ := hh
      obtain ⟨w, hw0⟩ := hinh
      obtain ⟨w', _, hw'⟩ := h2 w hw0
      exact ⟨h0, N', L', h1, h2, h _ _ _ (fun k _ hk => (h1 k).2 hk) ⟨w', hw'⟩ h3⟩
    · rename_i hw
      rw [if_neg hw] at hh
      exact ⟨hh.1, fun u Mo ho hi => h _ _ _ (fun k hk hn => by rw [zi2 hk]; exact hn) hi (hh.2 u Mo ho hi)⟩
theorem Safe.some {i : Nat} {o : Oper} {a : Act} {N : zd1} {L : List Ent} (hoi : ops[i]? = some o) (h : Safe P ops w0 T Φ i o a N L) (hinh : Inh ops Φ w0 N L) (hN : N i = none) : ∃ u Mo, OutM P ops w0 T Φ i o a N L u Mo ∧ Inh ops Φ w0 (app N i Mo) L := by
  obtain ⟨w, hw⟩ := hinh
  unfold Safe at h
  unfold OutM
  split at h
  · rename_i hwt
    simp only [hwt, if_true]
    obtain ⟨_, h⟩ := h
    split at h
    · rename_i hf
      simp only [hf, if_true]
      obtain ⟨v, hv⟩ := h
      exact ⟨v, none, ⟨hv, rfl⟩, w, hw⟩
    · rename_i hf
      simp only [hf, Bool.false_eq_true, if_false]
      split at h
      · rename_i hl
        simp only [hl, if_true]
        obtain ⟨vf, x, hv⟩ := h
        refine ⟨vf w.heap.size, _, ⟨vf, x, w.heap.size, hv, rfl, rfl⟩, w.alloc x, (hw.add hN ((Rep.start w).alloc x) (by simp)).remask zy3⟩
      · rename_i hl
        simp only [hl, Bool.false_eq_true, if_false]
        revert h
        cases Φ.f i with
        | none =>
          rintro ⟨v, hv⟩
          exact ⟨v, none, ⟨hv, rfl⟩, w, hw⟩
        | some φ =>
          cases hrs : zN5 Φ o i with
          | none =>
            intro h
            have h1 := h w ((hw.unmask zq9).sub zE0)
            revert h1
            cases (execOp a.eval o).run P w with
            | ok nx w1 =>
              cases nx <;> intro h1 <;> simp only [zJ5] at h1
              case value u =>
                obtain ⟨M, hφ, hM, ho⟩ := h1
                exact ⟨u, _, ⟨M, hφ, rfl, fun H hH => by cases hH⟩, w1, (hw.add hN hM ho).remask zy3⟩
              case enter f args =>
                obtain ⟨_, hc⟩ := h1
                obtain ⟨e, w', fr, ⟨u, M, _, hφ, hM, ho⟩, _⟩ := hc []
                exact ⟨u, _, ⟨M, hφ, rfl, fun H hH => by cases hH⟩, w', (hw.add hN hM ho).remask zy3⟩
            | halt x w1 => intro h1; simp only [zJ5] at h1
          | some H =>
            intro h
            have hr := (zS2 hoi H).1 hrs
            rw [zD7 hr hN] at hw
            have h1 := h w (hw.sub zE0)
            revert h1
            cases (execOp a.eval o).run P w with
            | ok nx w1 =>
              cases nx <;> intro h1 <;> simp only [zJ4] at h1
              case value u =>
                obtain ⟨M, hφ, hid, ho, hX⟩ := h1
                refine ⟨u, _, ⟨M, hφ, rfl, fun H' hH => by cases hH; exact hid⟩, w1, ?_⟩
                rw [zK6 hr (N := app N i (Option.some M)) (M := M) (by simp [app, upd_same]), List.nil_append]
                exact hw.turnA hN ho hX
            | halt x w1 => intro h1; simp only [zJ4] at h1
  · rename_i hwt
    simp only [hwt, Bool.false_eq_true, if_false]
    exact ⟨undef, none, ⟨rfl, rfl⟩, w, hw⟩
theorem Safe.same {i : Nat} {o : Oper} {a a' : Act} {N N' : zd1} {L : List Ent} (he : execOp a'.eval o = execOp a.eval o) (hw : Region.wanted o (yielded ops a'.tmps) = Region.wanted o (yielded ops a.tmps)) (hr : rst T i N' = rst T i N)
    (h : Safe P ops w0 T Φ i o a N L) : Safe P ops w0 T Φ i o a' N' L := by
  unfold Safe at *; rw [he, hw, hr]; exact h
theorem OutM.same {i : Nat} {o : Oper} {a a' : Act} {N N' : zd1} {L : List Ent} {u : Value} {Mo : Option (List Ent)} (he : execOp a'.eval o = execOp a.eval o) (hw : Region.wanted o (yielded ops a'.tmps) = Region.wanted o (yielded ops a.tmps)) (hr : rst T i N' = rst T i N)
    (h : OutM P ops w0 T Φ i o a N L u Mo) : OutM P ops w0 T Φ i o a' N' L u Mo := by
  unfold OutM at *; rw [he, hw, hr]; exact h
theorem yv5 {i j : Nat} {oi oj : Oper} {N : zd1} {L : List Ent} (hij : j ≠ i) (hi : ops[i]? = some oi) (hj : ops[j]? = some oj) (hap : oi.apart ops oj = true) (hco : zF6 oi oj = true)
    (hji : (T.getD j 0).testBit i = false) (hij' : (T.getD i 0).testBit j = false) (hsi : ∀ cs b, oi.op ≠ .select cs b) (hsj : ∀ cs b, oj.op ≠ .select cs b) {K : Act → zd1 → List Ent → Prop} {a : Act}
    (hinh : Inh ops Φ w0 N L) (hNi : N i = none) (hNj : N j = none) (H : gOp P ops w0 T Φ i (gOp P ops w0 T Φ j K) a N L) : gOp P ops w0 T Φ j (gOp P ops w0 T Φ i K) a N L := by
  obtain ⟨h1, h2, h3⟩ := Oper.apart_spec hap
  have Ej : ∀ u, execOp (a.put oi.dst u).eval oj = execOp a.eval oj := fun u => execOp_put oj hsj a oi.dst u h1
  have Wj : ∀ u, Region.wanted oj (yielded ops (a.put oi.dst u).tmps) = Region.wanted oj (yielded ops a.tmps) := fun u => wanted_put oj a oi.dst u h1
  have Ei : ∀ u, execOp (a.put oj.dst u).eval oi = execOp a.eval oi := fun u => execOp_put oi hsi a oj.dst u h3
  have Wi : ∀ u, Region.wanted oi (yielded ops (a.put oj.dst u).tmps) = Region.wanted oi (yielded ops a.tmps) := fun u => wanted_put oi a oj.dst u h3
  have C : ∀ v u, (a.put oi.dst v).put oj.dst u = (a.put oj.dst u).put oi.dst v := fun v u => Act.put_comm a v u h2
  unfold gOp at H ⊢
  simp only [hi, hj, zt1] at H ⊢
  by_cases hsti : (Region.wanted oi (yielded ops a.tmps) && zx4 oi.op) = true
  · -- a store first
    rw [if_pos hsti] at H
    simp only [Bool.and_eq_true] at hsti
    have hfi := zO0 hsti.2
    have hfj : zz0 oj.op = true := by
      simp only [zF6, hfi, hsti.2, Bool.false_or, Bool.not_true, Bool.false_and, Bool.or_false] at hco
      exact hco
    have hstj : (Region.wanted oj (yielded ops a.tmps) && zx4 oj.op) = false := by
      cases hs : zx4 oj.op with
      | false => simp
      | true => rw [zO0 hs] at hfj; cases hfj
    obtain ⟨hn, N', L', g1, g2, g3⟩ := H
    rw [Wj, hstj] at g3
    simp only [Bool.false_eq_true, if_false] at g3 ⊢
    rw [hstj]
    simp only [Bool.false_eq_true, if_false]
    obtain ⟨g4, g5⟩ := g3
    have hsafe : Safe P ops w0 T Φ j oj a N L := by
      unfold Safe at g4 ⊢
      rw [Ej, Wj] at g4
      simp only [hfj, if_true] at g4 ⊢
      exact g4
    refine ⟨hsafe, fun u Mo ho hinh' => ?_⟩
    have hMo : Mo = none := by
      unfold OutM at ho
      simp only [hfj, if_true] at ho
      split at ho
      · exact ho.2
      · exact ho.2
    subst hMo
    rw [Wi]
    simp only [hsti.1, hsti.2, Bool.and_self, if_true, app]
    refine ⟨hn, N', L', g1, by rw [Ei]; exact g2, ?_⟩
    rw [← C]
    refine g5 u none ?_ ?_
    · unfold OutM at ho ⊢
      rw [Ej, Wj]
      simp only [hfj, if_true] at ho ⊢
      exact ho
    · obtain ⟨w, hw⟩ := hinh
      obtain ⟨w', _, hw'⟩ := g2 w hw
      exact ⟨w', hw'⟩
  · rw [if_neg hsti] at H
    obtain ⟨s1, H⟩ := H
    by_cases hstj : (Region.wanted oj (yielded ops a.tmps) && zx4 oj.op) = true
    · -- a store second
      rw [if_pos hstj]
      simp only [Bool.and_eq_true] at hstj
      have hfj := zO0 hstj.2
      have hfi : zz0 oi.op = true := by
        simp only [zF6, hfj, hstj.2, Bool.or_false, Bool.not_true, Bool.and_false] at hco
        exact hco
      obtain ⟨u, Mo, ho, hinh'⟩ := s1.some hi hinh hNi
      have hMo : Mo = none := by
        unfold OutM at ho
        simp only [hfi, if_true] at ho
        split at ho
        · exact ho.2
        · exact ho.2
      subst hMo
      have H1 := H u none ho hinh'
      rw [Wj] at H1
      simp only [hstj.1, hstj.2, Bool.and_self, if_true, app] at H1
      obtain ⟨hn, N', L', g1, g2, g3⟩ := H1
      refine ⟨hn, N', L', g1, by rw [Ej] at g2; exact g2, ?_⟩
      rw [Wi, if_neg hsti]
      refine ⟨?_, fun u' Mo' ho' hinh2 => ?_⟩
      · unfold Safe at s1 ⊢
        rw [Ei, Wi]
        simp only [hfi, if_true] at s1 ⊢
        exact s1
      · have hu : u' = u ∧ Mo' = none := by
          unfold OutM at ho ho'
          rw [Ei, Wi] at ho'
          simp only [hfi, if_true] at ho ho'
          split at ho
          · rename_i hwt
            rw [if_pos hwt] at ho'
            have e := ho.1 w0
            rw [ho'.1 w0] at e
            injection e with e _
            injection e with e
            exact ⟨e, ho'.2⟩
          · rename_i hwt
            rw [if_neg hwt] at ho'
            exact ⟨by rw [ho.1, ho'.1], ho'.2⟩
        obtain ⟨rfl, rfl⟩ := hu
        simp only [app]
        rw [← C]
        exact g3
    · rw [if_neg hstj]
      have Hj : ∀ u Mo, OutM P ops w0 T Φ i oi a N L u Mo → Inh ops Φ w0 (app N i Mo) L → Safe P ops w0 T Φ j oj (a.put oi.dst u) (app N i Mo) L ∧ ∀ u' Mo', OutM P ops w0 T Φ j oj (a.put oi.dst u) (app N i Mo) L u' Mo' → Inh ops Φ w0 (app (app N i Mo) j Mo') L → K ((a.put oi.dst u).put oj.dst u') (app (app N i Mo) j Mo') L := fun u Mo ho hinh' => by
        have := H u Mo ho hinh'
        rw [Wj, if_neg hstj] at this
        exact this
      obtain ⟨u0, Mo0, ho0, hinh0⟩ := s1.some hi hinh hNi
      refine ⟨(Hj u0 Mo0 ho0 hinh0).1.same (Ej u0).symm (Wj u0).symm (zO1 hji).symm, fun u' Mo' ho' hinh' => ?_⟩
      rw [Wi, if_neg hsti]
      refine ⟨s1.same (Ei u') (Wi u') (zO1 hij'), fun u Mo ho hinh2 => ?_⟩
      have ho1 : OutM P ops w0 T Φ i oi a N L u Mo := ho.same (Ei u').symm (Wi u').symm (zO1 hij').symm
      have hinh1 : Inh ops Φ w0 (app N i Mo) L := Inh.drop (Ne.symm hij) hNj hinh (fun H M hr hm => by
        subst hm
        have hrs := (zS2 hj H).2 hr
        have hap' : zQ4 oj.op = true := by
          unfold zN5 at hrs
          revert hrs
          cases Φ.rv with
          | none => intro hrs; cases hrs
          | some q => intro hrs; simp only [] at hrs; cases hq : zQ4 oj.op with
            | true => rfl
            | false => rw [hq] at hrs; simp at hrs
        obtain ⟨q1, q2, _⟩ := yC6 hap'
        unfold OutM at ho'
        split at ho'
        · simp only [q1, q2, Bool.false_eq_true, if_false] at ho'
          revert ho'
          cases Φ.f j with
          | none => rintro ⟨_, h0⟩; cases h0
          | some φ => rintro ⟨M', _, h0, h1⟩; cases h0; exact h1 H hrs
        · exact absurd ho'.2 (by simp)) hinh2
      have := (Hj u Mo ho1 hinh1).2 u' Mo' (ho'.same (Ej u) (Wj u) (zO1 hji)) (by rw [zO5 (Ne.symm hij)]; exact hinh2)
      rw [zO5 (Ne.symm hij), C] at this
      exact this
def wpG (P : Program) (ops : Array Oper) (w0 : World) (T : List Nat) (Φ : zf2) (Z : Act → zd1 → List Ent → Prop) : List Oper → Nat → Act → zd1 → List Ent → Prop
  | [], _, a, N, L => Z a N L
  | o :: rest, k, a, N, L => zt1 P ops w0 T Φ o k (wpG P ops w0 T Φ Z rest (k + 1)) a N L
def zL6 (P : Program) (md : Region.Mode) (ops : Array Oper) (w0 : World) (T : List Nat) (Φ : zf2) (n : Nat) (LL : Array Bool → Act → zd1 → List Ent → Prop) : Nat → Array Bool → Act → zd1 → List Ent → Prop
  | 0, listed, a, N, L => LL listed a N L
  | f + 1, listed, a, N, L => Region.ready md ops listed ≠ [] ∧ ∀ i ∈ Region.ready md ops listed, i < n ∧ gOp P ops w0 T Φ i (zL6 P md ops w0 T Φ n LL f (listed.setIfInBounds i true)) a N L
structure zY6 (md : Region.Mode) (ops : Array Oper) (T : List Nat) (n : Nat) (Hd : Array Bool → Prop) : Prop where
  set : ∀ listed i, Hd listed → i ∈ Region.ready md ops listed → i < n → Hd (listed.setIfInBounds i true)
  lt : ∀ listed i, Hd listed → i < n → listed.getD i true = false → ∀ t ∈ Region.ready md ops listed, t < n
  anc : ∀ listed i j, Hd listed → listed.getD i true = false → j ∈ Region.ready md ops listed → (T.getD j 0).testBit i = false
theorem yv4 {i : Nat} {oi : Oper} {K : Act → zd1 → List Ent → Prop} {a : Act} {N : zd1} {L : List Ent} (hi : ops[i]? = some oi) (hinh : Inh ops Φ w0 N L) (hN : N i = none) (h : gOp P ops w0 T Φ i K a N L) : ∃ a' N' L', K a' N' L' := by
  unfold gOp at h
  simp only [hi, zt1] at h
  split at h
  · obtain ⟨_, N', L', _, _, h⟩ := h; exact ⟨_, _, _, h⟩
  · obtain ⟨u, Mo, ho, hinh'⟩ := h.1.some hi hinh hN
    exact ⟨_, _, _, h.2 u Mo ho hinh'⟩
theorem yb7 {n i : Nat} {oi : Oper} {LL : Array Bool → Act → zd1 → List Ent → Prop} {Hd : Array Bool → Prop} (hH : zY6 md ops T n Hd) (hi : ops[i]? = some oi)
    (hsel : ∀ (j : Nat) (o : Oper) cs b, ops[j]? = some o → o.op ≠ .select cs b) (hin : i < n) (hdone : ∀ listed a N L, LL listed a N L → ∀ j ∈ Region.ready md ops listed, n ≤ j) :
    ∀ (f : Nat) (listed : Array Bool) (a : Act) (N : zd1) (L : List Ent), Hd listed →
      (∀ j oj, ops[j]? = some oj → j ≠ i → listed.getD j true = false → (T.getD j 0).testBit i = false → oi.apart ops oj = true ∧ zF6 oi oj = true ∧ (T.getD i 0).testBit j = false) →
      (∀ j, listed.getD j true = false → N j = none) → Inh ops Φ w0 N L →
      i ∈ Region.ready md ops listed →
      gOp P ops w0 T Φ i (zL6 P md ops w0 T Φ n LL f (listed.setIfInBounds i true)) a N L → zL6 P md ops w0 T Φ n LL (f + 1) listed a N L := by
  intro f
  induction f with
  | zero =>
    intro listed a N L inv _ hN hinh hr H
    have hun := (mem_ready.1 hr).1
    refine ⟨fun h => (by rw [h] at hr; cases hr), fun j hj => ?_⟩
    have hjn := hH.lt listed i inv hin hun j hj
    refine ⟨hjn, ?_⟩
    by_cases hji : j = i
    · subst hji; exact H
    · obtain ⟨a', N', L', h1⟩ := yv4 hi hinh (hN i hun) H
      have := hdone _ _ _ _ h1 j (ready_mono hj hji)
      omega
  | succ f ih =>
    intro listed a N L inv hfree hN hinh hr H
    have hun := (mem_ready.1 hr).1
    refine ⟨fun h => (by rw [h] at hr; cases hr), fun j hj => ?_⟩
    have hjn := hH.lt listed i inv hin hun j hj
    refine ⟨hjn, ?_⟩
    by_cases hji : j = i
    · subst hji; exact H
    · obtain ⟨hjun, oj, hoj, hall⟩ := mem_ready.1 hj
      have hnot := hH.anc listed i j inv hun hj
      obtain ⟨hap, hco, hij'⟩ := hfree j oj hoj hji hjun hnot
      have H1 : gOp P ops w0 T Φ i (gOp P ops w0 T Φ j (zL6 P md ops w0 T Φ n LL f ((listed.setIfInBounds i true).setIfInBounds j true))) a N L :=
        zQ2 hinh (fun a' N' L' _ _ h => (h.2 j (ready_mono hj hji)).2) H
      have H2 := yv5 hji hi hoj hap hco hnot hij' (fun cs b => hsel i oi cs b hi) (fun cs b => hsel j oj cs b hoj) hinh (hN i hun) (hN j hjun) H1
      have hfree' : ∀ k ok, ops[k]? = some ok → k ≠ i → (listed.setIfInBounds j true).getD k true = false →
          (T.getD k 0).testBit i = false → oi.apart ops ok = true ∧ zF6 oi ok = true ∧ (T.getD i 0).testBit k = false := fun k ok hk hki hun hno => by
        refine hfree k ok hk hki ?_ hno
        by_cases hjk : j = k
        · subst hjk; exact hjun
        · rw [getD_set_ne true hjk] at hun; exact hun
      refine zQ2 hinh (fun a' N' L' hN' hinh' h3 => ?_) H2
      refine ih (listed.setIfInBounds j true) a' N' L' (hH.set listed j inv hj hjn) hfree' (fun k hk => ?_) hinh' (ready_mono hr (Ne.symm hji)) ?_
      · by_cases hjk : j = k
        · subst hjk
          rw [show (listed.setIfInBounds j true).getD j true = true from by
            rcases Nat.lt_or_ge j listed.size with h' | h' <;> simp [h']] at hk
          cases hk
        · rw [getD_set_ne true hjk] at hk
          exact hN' k (Ne.symm hjk) (hN k hk)
      · rw [Array.setIfInBounds_comm _ _ hji]
        exact h3
def yv3 (ops : Array Oper) (T : List Nat) (listed : Array Bool) (i : Nat) : Bool :=
  match ops[i]? with
  | none => false
  | some oi => (List.range ops.size).all fun j => Nat.beq j i || (listed.getD j true || ((T.getD j 0).testBit i || match ops[j]? with
      | some oj => zF6 oi oj && (!(T.getD i 0).testBit j && oi.apart ops oj)
      | none => true))
theorem yj2 {i : Nat} {oi : Oper} {listed : Array Bool} (hi : ops[i]? = some oi) (h : yv3 ops T listed i = true) (j : Nat) (oj : Oper)
    (hj : ops[j]? = some oj) (hne : j ≠ i) (hun : listed.getD j true = false) (hno : (T.getD j 0).testBit i = false) : oi.apart ops oj = true ∧ zF6 oi oj = true ∧ (T.getD i 0).testBit j = false := by
  simp only [yv3, hi, List.all_eq_true, List.mem_range] at h
  have h1 := h j (Array.getElem?_eq_some_iff.1 hj).1
  have hb : Nat.beq j i = false := by
    cases hb : Nat.beq j i
    · rfl
    · exact absurd (Nat.eq_of_beq_eq_true hb) hne
  simp only [hj, hb, hun, hno, Bool.false_or, Bool.and_eq_true, Bool.not_eq_true'] at h1
  exact ⟨h1.2.2, h1.1, h1.2.1⟩
def zK4 (md : Region.Mode) (ops : Array Oper) (T : List Nat) (fin : Array Bool → Bool) : Nat → Nat → Array Bool → Bool
  | 0, _, listed => fin listed
  | f + 1, k, listed => (Region.ready md ops listed).contains k && yv3 ops T listed k && zK4 md ops T fin f (k + 1) (listed.setIfInBounds k true)
theorem zG4 {n : Nat} {fin : Array Bool → Bool} {Z : Act → zd1 → List Ent → Prop} {Hd : Array Bool → Prop} (hH : zY6 md ops T n Hd) (hsel : Region.noSelect ops = true)
    (hfin : ∀ listed, fin listed = true → ∀ j ∈ Region.ready md ops listed, n ≤ j) :
    ∀ (l : List Oper) (k : Nat) (listed : Array Bool) (a : Act) (N : zd1) (L : List Ent), (∀ j, j < l.length → l[j]? = ops[k + j]?) → k + l.length = n → Hd listed →
    (∀ j, listed.getD j true = false → N j = none) → Inh ops Φ w0 N L →
    zK4 md ops T fin l.length k listed = true → wpG P ops w0 T Φ Z l k a N L →
    zL6 P md ops w0 T Φ n (fun listed' a' N' L' => fin listed' = true ∧ Z a' N' L') l.length listed a N L
  | [], k, listed, a, N, L, _, hk, _, _, _, hB, h => ⟨by simpa [zK4] using hB, h⟩
  | o :: l, k, listed, a, N, L, hl, hk, inv, hN, hinh, hB, h => by
    have h0 : ops[k]? = some o := by simpa using (hl 0 (by simp)).symm
    simp only [List.length_cons, zK4, Bool.and_eq_true] at hB
    obtain ⟨⟨hr, hf⟩, hB'⟩ := hB
    have hkn : k < n := by simp only [List.length_cons] at hk; omega
    have hr' : k ∈ Region.ready md ops listed := by simpa using hr
    refine yb7 hH h0 (Region.noSelect_spec hsel) hkn (fun listed' a' N' L' hL => hfin _ hL.1) l.length listed a N L inv
      (fun j oj hj hne hun hno => yj2 h0 hf j oj hj hne hun hno) hN hinh hr' ?_
    have h' : gOp P ops w0 T Φ k (wpG P ops w0 T Φ Z l (k + 1)) a N L := by unfold gOp; simp only [h0]; exact h
    refine zQ2 hinh (fun a' N' L' hN' hinh' h3 => ?_) h'
    refine zG4 hH hsel hfin l (k + 1) _ a' N' L' (fun j hj => by have := hl (j + 1) (by simp; omega); simpa [Nat.add_assoc, Nat.add_comm 1 j] using this) (by simp only [List.length_cons] at hk; omega) (hH.set _ _ inv hr' hkn) (fun j hj => ?_) hinh' hB' h3
    by_cases hjk : k = j
    · subst hjk
      rw [show (listed.setIfInBounds k true).getD k true = true from by
        rcases Nat.lt_or_ge k listed.size with h' | h' <;> simp [h']] at hj
      cases hj
    · rw [getD_set_ne true hjk] at hj
      exact hN' j (Ne.symm hjk) (hN j hj)
theorem zJ2 {r : Option Nat} {Q : Exit → Act → World → Prop} {n g : Nat} {LL : Array Bool → Act → zd1 → List Ent → Prop}
    (hL : ∀ listed a N L w, LL listed a N L → RepN w0 w N (zk3 ops Φ N ++ L) → wpAnyIn (FR r) 0 P md ops Q g listed a w) :
    ∀ (f : Nat) (listed : Array Bool) (a : Act) (w : World) (N : zd1) (L : List Ent),
      zL6 P md ops w0 T Φ n LL f listed a N L → RepN w0 w N (zk3 ops Φ N ++ L) → (∀ i, listed.getD i true = false → N i = none) →
      wpAnyIn (FR r) 0 P md ops Q (f + g) listed a w := by
  intro f
  induction f with
  | zero => intro listed a w N L h hw _; rw [Nat.zero_add]; exact hL _ _ _ _ _ h hw
  | succ f ih =>
    intro listed a w N L h hw hfr
    rw [show f + 1 + g = (f + g) + 1 by omega]
    refine ⟨fun h0 => absurd h0 h.1, fun i hi => ?_⟩
    have hun := (mem_ready.1 hi).1
    have hNi := hfr i hun
    have h1 := (h.2 i hi).2
    obtain ⟨_, o, ho, _⟩ := mem_ready.1 hi
    have hfr' : ∀ N' : zd1, (∀ k, k ≠ i → N k = none → N' k = none) → ∀ j, (listed.setIfInBounds i true).getD j true = false → N' j = none := fun N' hN' j hj => by
      by_cases e : i = j
      · subst e
        rw [show (listed.setIfInBounds i true).getD i true = true from by
          rcases Nat.lt_or_ge i listed.size with h' | h' <;> simp [h']] at hj
        cases hj
      · rw [getD_set_ne true e] at hj
        exact hN' j (Ne.symm e) (hfr j hj)
    have hfa : ∀ Mo, ∀ k, k ≠ i → N k = none → app N i Mo k = none := fun Mo k hk hn => by rw [zi2 hk]; exact hn
    unfold gOp at h1
    simp only [ho, zt1] at h1
    show wpOpIn (FR r) 0 P ops Q i _ a w
    unfold wpOpIn
    simp only [ho]
    by_cases hwt : Region.wanted o (yielded ops a.tmps) = true
    · rw [if_pos hwt]
      refine ⟨fun _ _ => trivial, ?_⟩
      by_cases hst : zx4 o.op = true
      · rw [if_pos (by rw [hwt, hst]; rfl)] at h1
        obtain ⟨hnd, N', L', g1, g2, g3⟩ := h1
        rw [show o.semAt (FR r).round a.eval = execOp a.eval o from zI7 hnd]
        obtain ⟨w1, e1, r1⟩ := g2 w hw
        rw [e1]
        exact ih _ _ _ _ _ g3 r1 (hfr' N' fun k _ hk => (g1 k).2 hk)
      · rw [if_neg (by simp [hst])] at h1
        obtain ⟨s1, h1⟩ := h1
        unfold Safe at s1
        unfold OutM at h1
        rw [if_pos hwt] at s1
        simp only [hwt, if_true] at h1
        obtain ⟨hnd, s1⟩ := s1
        rw [show o.semAt (FR r).round a.eval = execOp a.eval o from zI7 hnd]
        by_cases hf : zz0 o.op = true
        · simp only [hf, if_true] at s1 h1
          obtain ⟨v, hv⟩ := s1
          rw [hv w]
          exact ih _ _ _ _ _ (h1 v none ⟨hv, rfl⟩ ⟨w, hw⟩) hw (hfr' _ (hfa none))
        · simp only [hf, Bool.false_eq_true, if_false] at s1 h1
          by_cases hl : lays o.op = true
          · simp only [hl, if_true] at s1 h1
            obtain ⟨vf, x, hv⟩ := s1
            rw [hv w]
            have hadd := (hw.add hNi ((Rep.start w).alloc x) (by simp)).remask (ops := ops) (Φ := Φ) zy3
            exact ih _ _ _ _ _ (h1 _ _ ⟨vf, x, w.heap.size, hv, rfl, rfl⟩ ⟨_, hadd⟩) hadd (hfr' _ (hfa (some [⟨w.heap.size, x, true⟩])))
          · simp only [hl, Bool.false_eq_true, if_false] at s1 h1
            revert s1 h1
            cases hΦ : Φ.f i with
            | none =>
              rintro ⟨v, hv⟩ h1
              have hgo := h1 v none ⟨hv, rfl⟩ ⟨w, hw⟩
              have h3 := hv w ((hw.unmask zq9).sub zE0)
              revert h3
              cases hrun : (execOp a.eval o).run P w with
              | ok nx w1 =>
                cases nx <;> intro h3 <;> simp only [Comes1] at h3
                case value u =>
                  obtain ⟨e1, e2⟩ := h3
                  subst e1 e2
                  exact ih _ _ _ _ _ hgo hw (hfr' _ (hfa none))
                case skip =>
                  obtain ⟨e1, e2⟩ := h3
                  subst e1 e2
                  exact ih _ _ _ _ _ hgo hw (hfr' _ (hfa none))
                case enter f' args =>
                  obtain ⟨e1, hin, hc⟩ := h3
                  subst e1
                  refine ⟨fun hh => (by cases hh), zP1 (hc.mono fun e w2 ⟨he, hb⟩ => ?_)⟩
                  subst he
                  exact ih _ _ _ _ _ hgo (hw.grow hb) (hfr' _ (hfa none))
              | halt x w1 => intro h3; simp only [Comes1] at h3
            | some φ =>
              cases hrs : zN5 Φ o i with
              | none =>
                intro s1 h1
                have h3 := s1 w ((hw.unmask zq9).sub zE0)
                revert h3
                cases hrun : (execOp a.eval o).run P w with
                | ok nx w1 =>
                  cases nx <;> intro h3 <;> simp only [zJ5] at h3
                  case value u =>
                    obtain ⟨M, hφ, hM, hoM⟩ := h3
                    have hadd := (hw.add hNi hM hoM).remask (ops := ops) (Φ := Φ) zy3
                    exact ih _ _ _ _ _ (h1 u _ ⟨M, hφ, rfl, fun H hH => by cases hH⟩ ⟨_, hadd⟩) hadd (hfr' _ (hfa (some M)))
                  case enter f' args =>
                    obtain ⟨e1, hc⟩ := h3
                    subst e1
                    refine ⟨fun hh => (by cases hh), zP1 (hc.mono fun e w2 he => ?_)⟩
                    obtain ⟨u, M, rfl, hφ, hM, hoM⟩ := he
                    have hadd := (hw.add hNi hM hoM).remask (ops := ops) (Φ := Φ) zy3
                    exact ih _ _ _ _ _ (h1 u _ ⟨M, hφ, rfl, fun H hH => by cases hH⟩ ⟨_, hadd⟩) hadd (hfr' _ (hfa (some M)))
                | halt x w1 => intro h3; simp only [zJ5] at h3
              | some H =>
                intro s1 h1
                have hr := (zS2 ho H).1 hrs
                have hw2 := hw
                rw [zD7 hr hNi] at hw2
                have h3 := s1 w (hw2.sub zE0)
                revert h3
                cases hrun : (execOp a.eval o).run P w with
                | ok nx w1 =>
                  cases nx <;> intro h3 <;> simp only [zJ4] at h3
                  case value u =>
                    obtain ⟨M, hφ, hid, hoM, hX⟩ := h3
                    have hadd : RepN w0 w1 (app N i (some M)) (zk3 ops Φ (app N i (some M)) ++ L) := by
                      rw [zK6 hr (N := app N i (some M)) (M := M) (by simp [app, upd_same]), List.nil_append]
                      exact hw2.turnA hNi hoM hX
                    exact ih _ _ _ _ _ (h1 u _ ⟨M, hφ, rfl, fun H' hH => by cases hH; exact hid⟩ ⟨_, hadd⟩) hadd (hfr' _ (hfa (some M)))
                | halt x w1 => intro h3; simp only [zJ4] at h3
    · rw [if_neg hwt]
      refine ⟨fun _ _ => trivial, ?_⟩
      rw [if_neg (by simp [hwt])] at h1
      unfold OutM at h1
      simp only [hwt, Bool.false_eq_true, if_false] at h1
      exact ih _ _ _ _ _ (h1.2 undef none ⟨rfl, rfl⟩ ⟨w, hw⟩) hw (hfr' _ (hfa none))
end
abbrev Made := List (Nat × List Ent)
def zP6 (J : Made) : List Ent := J.flatMap Prod.snd
structure LM (J : Made) (N : zd1) : Prop where
  nd : (J.map Prod.fst).Nodup
  mem : ∀ p ∈ J, ∃ M R, N p.1 = some M ∧ M.Perm (p.2 ++ R)
theorem LM.split {J : Made} {N : zd1} (h : LM J N) (ho : ∀ i M, N i = some M → ∀ x ∈ M, x.own = true) : ∃ R, (fam N (J.map Prod.fst)).Perm (zP6 J ++ R) ∧ ∀ x ∈ R, x.own = true := by
  obtain ⟨hnd, hm⟩ := h
  clear hnd
  induction J with
  | nil => exact ⟨[], by simp [fam, zP6], by simp⟩
  | cons p J ih =>
    obtain ⟨R, h1, h2⟩ := ih (fun q hq => hm q (List.mem_cons_of_mem _ hq))
    obtain ⟨M, R0, h3, h4⟩ := hm p List.mem_cons_self
    refine ⟨R0 ++ R, ?_, fun x hx => ?_⟩
    · rw [List.map_cons, zt0 h3]
      have h5 : (M ++ fam N (J.map Prod.fst)).Perm ((p.2 ++ R0) ++ (zP6 J ++ R)) := h4.append h1
      refine h5.trans ?_
      simp only [zP6, List.flatMap_cons, List.append_assoc]
      refine List.Perm.append_left p.2 ?_
      rw [← List.append_assoc, ← List.append_assoc]
      exact List.Perm.append_right R List.perm_append_comm
    · rcases List.mem_append.1 hx with hx | hx
      · exact ho p.1 M h3 x (h4.mem_iff.2 (List.mem_append_right _ hx))
      · exact h2 x hx
theorem LM.rep0 {w0 w : World} {J : Made} {N : zd1} {L : List Ent} (h : LM J N) (hw : RepN w0 w N L) : Rep w0 w (zP6 J ++ L) := by
  obtain ⟨R, h1, h2⟩ := h.split hw.own
  have h3 := hw.all (J.map Prod.fst) h.nd (fun j hj => by
    obtain ⟨p, hp, rfl⟩ := List.mem_map.1 hj
    obtain ⟨M, R0, h4, _⟩ := h.mem p hp
    rw [h4]; simp)
  refine h3.sub ⟨R, ?_, h2⟩
  refine (h1.append_right L).trans ?_
  rw [List.append_assoc, List.append_assoc]
  exact List.Perm.append_left _ List.perm_append_comm
def za9 : Made → List Ent → List Ent
  | [], L => L
  | (_, M) :: J, L => M ++ za9 J L
theorem zH1 : ∀ (J : Made) (L : List Ent), za9 J L = zP6 J ++ L
  | [], L => rfl
  | (k, M) :: J, L => by simp only [za9, zH1 J L, zP6, List.flatMap_cons, List.append_assoc]
theorem LM.rep {w0 w : World} {J : Made} {N : zd1} {L : List Ent} (h : LM J N) (hw : RepN w0 w N L) : Rep w0 w (za9 J L) := by
  rw [zH1]; exact h.rep0 hw
inductive SubJ (m : Nat) : Made → Made → Prop
  | nil {J : Made} : SubJ m [] J
  | keep {j : Nat} {M : List Ent} {J1 J : Made} : m.testBit j = true → SubJ m J1 J → SubJ m ((j, M) :: J1) ((j, M) :: J)
  | drop {p : Nat × List Ent} {J1 J : Made} : SubJ m J1 J → SubJ m J1 (p :: J)
theorem SubJ.sub {m : Nat} {J1 J : Made} (h : SubJ m J1 J) : J1.Sublist J ∧ ∀ p ∈ J1, m.testBit p.1 = true := by
  induction h with
  | nil => exact ⟨List.nil_sublist _, by simp⟩
  | keep hb _ ih => exact ⟨ih.1.cons_cons _, fun p hp => by
      rcases List.mem_cons.1 hp with rfl | hp
      · exact hb
      · exact ih.2 p hp⟩
  | drop _ ih => exact ⟨ih.1.cons _, ih.2⟩
theorem LM.rst {T : List Nat} {k : Nat} {J1 J : Made} {N : zd1} (h : LM J N) (hs : SubJ (T.getD k 0) J1 J) : LM J1 (rst T k N) := by
  obtain ⟨h1, h2⟩ := hs.sub
  refine ⟨h.nd.sublist (h1.map _), fun p hp => ?_⟩
  obtain ⟨M, R, h3, h4⟩ := h.mem p (h1.subset hp)
  refine ⟨M, R, ?_, h4⟩
  simp only [Sx.rst, h2 p hp, cond_true]; exact h3
structure Lists (k : Nat) (N : zd1) (J : Made) : Prop where
  off : ∀ j, k ≤ j → N j = none
  lt : ∀ p ∈ J, p.1 < k
  lm : LM J N
theorem Lists.nil : Lists 0 (fun _ => none) [] := ⟨fun _ _ => rfl, by simp, ⟨List.nodup_nil, by simp⟩⟩
theorem Lists.still {k : Nat} {N : zd1} {J : Made} (h : Lists k N J) : Lists (k + 1) N J := ⟨fun j hj => h.off j (by omega), fun p hp => Nat.lt_succ_of_lt (h.lt p hp), h.lm⟩
theorem Lists.add {k : Nat} {N : zd1} {J : Made} (h : Lists k N J) (M : List Ent) : Lists (k + 1) (upd N k (some M)) ((k, M) :: J) := by
  refine ⟨fun j hj => by rw [zd4 (by omega)]; exact h.off j (by omega), fun p hp => ?_, ?_, fun p hp => ?_⟩
  · rcases List.mem_cons.1 hp with rfl | hp
    · exact Nat.lt_succ_self k
    · exact Nat.lt_succ_of_lt (h.lt p hp)
  · simp only [List.map_cons, List.nodup_cons]
    refine ⟨fun hm => ?_, h.lm.nd⟩
    obtain ⟨p, hp, e⟩ := List.mem_map.1 hm
    have := h.lt p hp; omega
  · rcases List.mem_cons.1 hp with rfl | hp
    · exact ⟨M, [], upd_same, by simp⟩
    · obtain ⟨M', R, h1, h2⟩ := h.lm.mem p hp
      exact ⟨M', R, by rw [zd4 (by have := h.lt p hp; omega)]; exact h1, h2⟩
inductive UpdJ : Made → Nat → Obj → Obj → Made → Prop
  | hd {j b : Nat} {o o' : Obj} {M M' : List Ent} {J : Made} : Upd M b o o' M' → UpdJ ((j, M) :: J) b o o' ((j, M') :: J)
  | tl {p : Nat × List Ent} {b : Nat} {o o' : Obj} {J J' : Made} : UpdJ J b o o' J' → UpdJ (p :: J) b o o' (p :: J')
theorem UpdJ.split {J J' : Made} {b : Nat} {o o' : Obj} (h : UpdJ J b o o' J') : ∃ J1 j M M' J2, J = J1 ++ (j, M) :: J2 ∧ J' = J1 ++ (j, M') :: J2 ∧ Upd M b o o' M' := by
  induction h with
  | @hd j b o o' M M' J hu => exact ⟨[], j, M, M', J, rfl, rfl, hu⟩
  | @tl p b o o' J J' _ ih =>
    obtain ⟨J1, j, M, M', J2, e1, e2, hu⟩ := ih
    exact ⟨p :: J1, j, M, M', J2, by rw [e1]; rfl, by rw [e2]; rfl, hu⟩
theorem Lists.turn {k : Nat} {N : zd1} {J J' : Made} {b : Nat} {o o' : Obj} (h : Lists k N J) (hu : UpdJ J b o o' J') : ∃ j M M0 M0' R, N j = some M ∧ M.Perm (M0 ++ R) ∧ Upd M0 b o o' M0' ∧ Lists (k + 1) (upd N j (some (M0' ++ R))) J' := by
  obtain ⟨J1, j, M0, M0', J2, rfl, rfl, hu2⟩ := hu.split
  have hmem : (j, M0) ∈ J1 ++ (j, M0) :: J2 := by simp
  obtain ⟨M, R, h1, h2⟩ := h.lm.mem _ hmem
  have hlt := h.lt _ hmem
  have hnd := h.lm.nd
  simp only [List.map_append, List.map_cons] at hnd
  have hj1 : ∀ p ∈ J1, p.1 ≠ j := fun p hp e => by
    have := (List.nodup_append.1 hnd).2.2 p.1 (List.mem_map.2 ⟨p, hp, rfl⟩) j List.mem_cons_self
    exact this e
  have hj2 : ∀ p ∈ J2, p.1 ≠ j := fun p hp e => by
    have := (List.nodup_cons.1 (List.nodup_append.1 hnd).2.1).1
    exact this (List.mem_map.2 ⟨p, hp, e⟩)
  refine ⟨j, M, M0, M0', R, h1, h2, hu2, fun i hi => by rw [zd4 (by omega)]; exact h.off i (by omega), fun p hp => ?_, by simpa using hnd, fun p hp => ?_⟩
  · rcases List.mem_append.1 hp with hp | hp
    · exact Nat.lt_succ_of_lt (h.lt p (List.mem_append_left _ hp))
    · rcases List.mem_cons.1 hp with rfl | hp
      · exact Nat.lt_succ_of_lt hlt
      · exact Nat.lt_succ_of_lt (h.lt p (by simp [hp]))
  · rcases List.mem_append.1 hp with hp | hp
    · obtain ⟨M', R', h3, h4⟩ := h.lm.mem p (List.mem_append_left _ hp)
      exact ⟨M', R', by rw [zd4 (hj1 p hp)]; exact h3, h4⟩
    · rcases List.mem_cons.1 hp with rfl | hp
      · exact ⟨_, R, upd_same, .refl _⟩
      · obtain ⟨M', R', h3, h4⟩ := h.lm.mem p (by simp [hp])
        exact ⟨M', R', by rw [zd4 (hj2 p hp)]; exact h3, h4⟩
def WQ (P : Program) (ops : Array Oper) (w0 : World) (L : List Ent) (Φ : zf2) (X : Act → World → Prop) (k : Nat) (J : Made) (l : List Oper) : Act → World → Prop :=
  fun a _ => ∀ N, Lists k N J → Inh ops Φ w0 N L → wpG P ops w0 (anc ops) Φ (fun a' N' L' => ∀ w', RepN w0 w' N' (zk3 ops Φ N' ++ L') → X a' w') l k a N L
def yv7 (ops : Array Oper) : Bool := Region.noSelect ops && zU8 .any ops (anc ops) && zK4 .any ops (anc ops) (fun listed => (Region.ready .any ops listed).isEmpty) ops.size 0 (Array.replicate ops.size false)
def yz3 (ops : Array Oper) (n : Nat) : Bool :=
  Region.noSelect ops && zU8 .any ops (anc ops) && decide (n < ops.size) && Region.sinkB .any ops n && Region.chainB .any ops n && zK4 .any ops (anc ops) (fun listed => Region.seqB .any ops (ops.size - n) n listed) n 0 (Array.replicate ops.size false)
section
variable {r : Option Nat} {P : Program} {n : Nat} {D : List Deferred} {w0 : World} {F : List (Nat × Value)} {L : List Ent} {J J1 : Made} {Φ : zf2} {k : Nat} {X : Act → World → Prop} {Q : Exit → Act → World → Prop} {ops : Array Oper} {md : Region.Mode}
variable {d : Tmp} {ty : TypeId} {pos : String} {af : Array Edge} {rest : List Oper}
theorem zD0 {F : Fence} {m : Nat} : ∀ (l : List Oper) (k : Nat) (listed : Array Bool) (a : Act) (w : World), (∀ j, l[j]? = ops[k + j]?) →
    Region.seqB md ops l.length k listed = true → wpListIn F m P ops Q l a w → wpAnyIn F m P md ops Q l.length listed a w
  | [], _, _, _, _, _, hB, h => ⟨by simpa [Region.seqB] using hB, h⟩
  | o :: l, k, listed, a, w, hl, hB, h => by
    have h0 : ops[k]? = some o := by simpa using (hl 0).symm
    simp only [List.length_cons, Region.seqB, Bool.and_eq_true, decide_eq_true_eq] at hB
    refine ⟨fun h1 => (by rw [hB.1] at h1; cases h1), fun i hi => ?_⟩
    rw [hB.1] at hi
    have hik : i = k := by simpa using hi
    subst hik
    have hw : wpOpIn F m P ops Q i (wpListIn F m P ops Q l) a w := by unfold wpOpIn; simp only [h0]; exact h
    exact wpOpIn_mono (fun a' w' h' => zD0 l (i + 1) _ a' w' (fun j => by have := hl (j + 1); simpa [Nat.add_assoc, Nat.add_comm 1 j] using this) hB.2 h') hw
theorem yn8 {T : List Nat} {m : Nat} (hT : zU8 md ops T = true) : ∀ listed i j, HeadInv md ops m listed → listed.getD i true = false → j ∈ Region.ready md ops listed → (T.getD j 0).testBit i = false := by
  intro listed i j inv hi hj
  cases hb : (T.getD j 0).testBit i with
  | false => rfl
  | true =>
    obtain ⟨_, o, ho, hall⟩ := mem_ready.1 hj
    have := yi4 hT inv.closed inv.size j i o ho hall hb
    rw [getD_both hi] at this
    cases this
theorem zF5 {id : Nat} {l : List Oper} {H L0 : List Ent} (Φ : zf2) (hm : P.follows .mixedOrders = true) (hB : yv7 l.toArray = true) (hMk : zk3 l.toArray Φ (fun _ => none) = H) (hr : RemL L H L0)
    (h : St n D w0 F L0 (WQ P l.toArray w0 L0 Φ (Q .normal) 0 [] l)) : St n D w0 F L (WC r P (.region id l.toArray true) Q) := by
  intro a w ha hw
  simp only [yv7, Bool.and_eq_true] at hB
  obtain ⟨⟨hsel, hanc⟩, hlex⟩ := hB
  show (Code.region id l.toArray true).wpIn (FR r) 0 P Q a w
  refine wpIn_region_any hm ?_
  have hHo : ∀ x ∈ H, x.own = true := hMk ▸ zq9
  have hw := hw.perm hr
  have hwd := hw.drew
  have hw0 : Rep w0 w L0 := hw.sub (HSub.dropL hHo HSub.same)
  have inv0 : HeadInv .any l.toArray l.length (Array.replicate l.toArray.size false) :=
    ⟨by simp, fun j oj _ hl => (by rw [getD_replicate_false] at hl; cases hl), fun t _ ht => getD_in (by simpa using ht) (getD_replicate_false _ _)⟩
  have hH : zY6 .any l.toArray (anc l.toArray) l.length (HeadInv .any l.toArray l.length) := ⟨fun listed i inv hi hin => inv.set hi hin, fun listed i _ _ _ t ht => by
    obtain ⟨_, ot, hot, _⟩ := mem_ready.1 ht
    simpa using (Array.getElem?_eq_some_iff.1 hot).1, yn8 hanc⟩
  have hR0 : RepN w0 { w with drawn := w.drawn + 1 } (fun _ => none) (zk3 l.toArray Φ (fun _ => none) ++ L0) := ⟨fun i M hi => (by cases hi), fun js hn hj => by
    cases js with
    | nil => rw [hMk]; simpa [fam] using hwd
    | cons j js => exact absurd rfl (hj j List.mem_cons_self)⟩
  have key := zJ2 (P := P) (md := .any) (ops := l.toArray) (w0 := w0) (T := anc l.toArray) (Φ := Φ) (r := r) (Q := Q) (n := l.length) (g := 0)
    (LL := fun listed' a' N' L' => (Region.ready .any l.toArray listed').isEmpty = true ∧ ∀ w', RepN w0 w' N' (zk3 l.toArray Φ N' ++ L') → Q .normal a' w')
    (fun listed a' N' L' w' hL hw' => ⟨by simpa using hL.1, hL.2 w' hw'⟩) l.length (Array.replicate l.toArray.size false) a { w with drawn := w.drawn + 1 } (fun _ => none) L0
    (zG4 hH hsel (fun listed hf j hj => by rw [List.isEmpty_iff] at hf; rw [hf] at hj; cases hj) l 0 _ a _ _ (fun j _ => by simp) (by simp) inv0 (fun _ _ => rfl) ⟨_, hR0⟩ (by simpa using hlex) (h a w ha hw0 _ Lists.nil ⟨_, hR0⟩))
    hR0 (fun _ _ => rfl)
  simpa using key
theorem p6 {id : Nat} {l : List Oper} (sp : List (Nat × (Value → List Ent → Prop))) (hm : P.follows .mixedOrders = true) (hB : yv7 l.toArray = true)
    (h : St n D w0 F L (WQ P l.toArray w0 L (spec sp) (Q .normal) 0 [] l)) : St n D w0 F L (WC r P (.region id l.toArray true) Q) :=
  zF5 (spec sp) hm hB rfl RemL.nil h
theorem yp7 {id : Nat} {l : List Oper} {H L0 : List Ent} (Φ : zf2) (m : Nat) (hm : P.follows .mixedOrders = true) (hB : yz3 l.toArray m = true) (hMk : zk3 l.toArray Φ (fun _ => none) = H) (hr : RemL L H L0)
    (h : St n D w0 F L0 (WQ P l.toArray w0 L0 Φ (WL r P l.toArray Q (l.drop m)) 0 [] (l.take m))) : St n D w0 F L (WC r P (.region id l.toArray true) Q) := by
  intro a w ha hw
  simp only [yz3, Bool.and_eq_true, decide_eq_true_eq] at hB
  obtain ⟨⟨⟨⟨⟨hsel, hanc⟩, hn⟩, hs⟩, hc⟩, hlex⟩ := hB
  show (Code.region id l.toArray true).wpIn (FR r) 0 P Q a w
  refine wpIn_region_any hm ?_
  have hHo : ∀ x ∈ H, x.own = true := hMk ▸ zq9
  have hw := hw.perm hr
  have hwd := hw.drew
  have hw0 : Rep w0 w L0 := hw.sub (HSub.dropL hHo HSub.same)
  have hn' : m < l.length := by simpa using hn
  have htl : (l.take m).length = m := by simp; omega
  have hdl : (l.drop m).length = l.toArray.size - m := by simp
  have inv0 : HeadInv .any l.toArray m (Array.replicate l.toArray.size false) :=
    ⟨by simp, fun j oj _ hl => (by rw [getD_replicate_false] at hl; cases hl), fun t _ ht => getD_in (by simpa using ht) (getD_replicate_false _ _)⟩
  have hH : zY6 .any l.toArray (anc l.toArray) m (HeadInv .any l.toArray m) := ⟨fun listed i inv hi hin => inv.set hi hin, fun listed i inv hin hun t ht => by
    rcases Nat.lt_or_ge t m with h | h
    · exact h
    · exact absurd ht (tail_waits hs hc hn inv _ i rfl hin hun t h), yn8 hanc⟩
  have hR0 : RepN w0 { w with drawn := w.drawn + 1 } (fun _ => none) (zk3 l.toArray Φ (fun _ => none) ++ L0) := ⟨fun i M hi => (by cases hi), fun js hn hj => by
    cases js with
    | nil => rw [hMk]; simpa [fam] using hwd
    | cons j js => exact absurd rfl (hj j List.mem_cons_self)⟩
  have key := zJ2 (P := P) (md := .any) (ops := l.toArray) (w0 := w0) (T := anc l.toArray) (Φ := Φ) (r := r) (Q := Q) (n := m) (g := l.toArray.size - m)
    (LL := fun listed' a' N' L' => Region.seqB .any l.toArray (l.toArray.size - m) m listed' = true ∧ ∀ w', RepN w0 w' N' (zk3 l.toArray Φ N' ++ L') → WL r P l.toArray Q (l.drop m) a' w')
    (fun listed a' N' L' w' hL hw' => by
      have := zD0 (md := .any) (Q := Q) (P := P) (F := FR r) (m := 0) (ops := l.toArray) (l.drop m) m listed a' w' (fun j => by simp [List.getElem?_drop]) (by rw [hdl]; exact hL.1) (hL.2 w' hw')
      rwa [hdl] at this) m (Array.replicate l.toArray.size false) a { w with drawn := w.drawn + 1 } (fun _ => none) L0
    (by
      have := zG4 (P := P) (w0 := w0) (Φ := Φ) (Z := fun a' N' L' => ∀ w', RepN w0 w' N' (zk3 l.toArray Φ N' ++ L') → WL r P l.toArray Q (l.drop m) a' w') hH hsel (fin := fun listed => Region.seqB .any l.toArray (l.toArray.size - m) m listed) (fun listed hf j hj => seqB_ready hf j hj) (l.take m) 0 _ a (fun _ => none) L0
        (fun j hj => by
          have hj' : j < m := by rw [htl] at hj; exact hj
          simp [hj']) (by simpa using htl) inv0 (fun _ _ => rfl) ⟨_, hR0⟩ (by rw [htl]; exact hlex) (h a w ha hw0 _ Lists.nil ⟨_, hR0⟩)
      rwa [htl] at this)
    hR0 (fun _ _ => rfl)
  rw [show m + (l.toArray.size - m) = l.toArray.size by omega] at key
  exact key
theorem zg0 {id : Nat} {l : List Oper} (sp : List (Nat × (Value → List Ent → Prop))) (m : Nat) (hm : P.follows .mixedOrders = true) (hB : yz3 l.toArray m = true)
    (h : St n D w0 F L (WQ P l.toArray w0 L (spec sp) (WL r P l.toArray Q (l.drop m)) 0 [] (l.take m))) : St n D w0 F L (WC r P (.region id l.toArray true) Q) :=
  yp7 (spec sp) m hm hB rfl RemL.nil h
theorem za6 (h : St n D w0 F (za9 J L) X) : St n D w0 F L (WQ P ops w0 L Φ X k J []) :=
  fun a _ ha _ N hN _ w' hw' => h a w' ha (hN.lm.rep (hw'.unmask zq9))
theorem yI4 {o : Oper} {K : Act → zd1 → List Ent → Prop} {a : Act} {N : zd1} {v : Value} (hwt : Region.wanted o (yielded ops a.tmps) = true) (hnd : nd o.op = true) (hf : zz0 o.op = true)
    (hv : ∀ w, (execOp a.eval o).run P w = .ok (.value v) w) (h : K (a.put o.dst v) N L) : zt1 P ops w0 (anc ops) Φ o k K a N L := by
  have hs : zx4 o.op = false := by
    cases hs : zx4 o.op with
    | false => rfl
    | true => rw [zO0 hs] at hf; cases hf
  unfold zt1
  rw [if_neg (by simp [hs])]
  unfold Safe OutM
  simp only [hwt, hf, if_true]
  refine ⟨⟨hnd, v, hv⟩, ?_⟩
  rintro u Mo ⟨hu, rfl⟩ _
  have e := hv w0
  rw [hu w0] at e
  injection e with e _
  injection e with e
  subst e; exact h
theorem zV9 {o : Oper} {K : Act → zd1 → List Ent → Prop} {a : Act} {N : zd1} (hwt : Region.wanted o (yielded ops a.tmps) = false) (h : K (a.put o.dst undef) N L) : zt1 P ops w0 (anc ops) Φ o k K a N L := by
  unfold zt1
  rw [if_neg (by simp [hwt])]
  unfold Safe OutM
  simp only [hwt, Bool.false_eq_true, if_false]
  refine ⟨trivial, ?_⟩
  rintro u Mo ⟨rfl, rfl⟩ _
  exact h
theorem yK4 {o : Oper} {K : Act → zd1 → List Ent → Prop} {a : Act} {N : zd1} {vf : Nat → Value} {x : Obj} (hwt : Region.wanted o (yielded ops a.tmps) = true) (hnd : nd o.op = true) (hl : lays o.op = true)
    (hv : ∀ w, (execOp a.eval o).run P w = .ok (.value (vf w.heap.size)) (w.alloc x)) (h : ∀ b, Inh ops Φ w0 (upd N k (some [⟨b, x, true⟩])) L → K (a.put o.dst (vf b)) (upd N k (some [⟨b, x, true⟩])) L) : zt1 P ops w0 (anc ops) Φ o k K a N L := by
  have hf : zz0 o.op = false := by revert hl; cases o.op <;> simp [lays, zz0]
  have hs : zx4 o.op = false := by revert hl; cases o.op <;> simp [lays, zx4]
  unfold zt1
  rw [if_neg (by simp [hs])]
  unfold Safe OutM
  simp only [hwt, hf, hl, if_true, Bool.false_eq_true, if_false]
  refine ⟨⟨hnd, vf, x, hv⟩, ?_⟩
  rintro u Mo ⟨vf', x', b, hv', rfl, rfl⟩ hinh
  have e : ∃ w : World, w.heap.size = b := ⟨{ w0 with heap := (List.replicate b x).toArray }, by simp⟩
  obtain ⟨w, rfl⟩ := e
  have e1 := hv w
  rw [hv' w] at e1
  injection e1 with e2 e3
  injection e2 with e4
  have h8 : (w.alloc x').heap[w.heap.size]? = (w.alloc x).heap[w.heap.size]? := by rw [e3]
  have h9 : ∀ y : Obj, (w.alloc y).heap[w.heap.size]? = some y := fun y => by show (w.heap.push y)[w.heap.size]? = some y; simp
  rw [h9, h9] at h8
  injection h8 with h10
  subst h10
  rw [e4]
  exact h _ hinh
theorem yv6 {o : Oper} {K : Act → zd1 → List Ent → Prop} {a : Act} {N : zd1} {v : Value} (hwt : Region.wanted o (yielded ops a.tmps) = true) (hnd : nd o.op = true) (hf : zz0 o.op = false) (hs : zx4 o.op = false) (hl : lays o.op = false) (hΦ : Φ k = none)
    (hinh : Inh ops Φ w0 N L) (hv : ∀ w, RepN w0 w (rst (anc ops) k N) L → Comes1 P w v ((execOp a.eval o).run P w)) (h : K (a.put o.dst v) N L) : zt1 P ops w0 (anc ops) Φ o k K a N L := by
  unfold zt1
  rw [if_neg (by simp [hs])]
  unfold Safe OutM
  simp only [hwt, hf, hl, hΦ, if_true, Bool.false_eq_true, if_false]
  refine ⟨⟨hnd, v, hv⟩, ?_⟩
  rintro u Mo ⟨hu, rfl⟩ _
  obtain ⟨w, hw⟩ := hinh
  have hw' := (hw.unmask zq9).sub (N' := rst (anc ops) k N) zE0
  rw [(hv w hw').uniq (hu w hw')]
  exact h
theorem yF2 {o : Oper} {i : Nat} (h : zQ4 o.op = false) : zN5 Φ o i = none := by
  unfold zN5
  cases Φ.rv with
  | none => rfl
  | some q => simp [h]
theorem yK5 {o : Oper} {K : Act → zd1 → List Ent → Prop} {a : Act} {N : zd1} {φ : Value → List Ent → Prop} (hwt : Region.wanted o (yielded ops a.tmps) = true) (hnd : nd o.op = true) (hf : zz0 o.op = false) (hs : zx4 o.op = false) (hl : lays o.op = false) (hΦ : Φ k = some φ) (hrs : zN5 Φ o k = none)
    (hv : ∀ w, RepN w0 w (rst (anc ops) k N) L → zJ5 P w φ ((execOp a.eval o).run P w)) (h : ∀ u M, φ u M → Inh ops Φ w0 (upd N k (some M)) L → K (a.put o.dst u) (upd N k (some M)) L) : zt1 P ops w0 (anc ops) Φ o k K a N L := by
  unfold zt1
  rw [if_neg (by simp [hs])]
  unfold Safe OutM
  simp only [hwt, hf, hl, hΦ, hrs, if_true, Bool.false_eq_true, if_false]
  refine ⟨⟨hnd, hv⟩, ?_⟩
  rintro u Mo ⟨M, hu, rfl, _⟩ hinh
  exact h u M hu hinh
theorem yK3 {o : Oper} {K : Act → zd1 → List Ent → Prop} {a : Act} {N : zd1} {φ : Value → List Ent → Prop} {H : List Ent} (hwt : Region.wanted o (yielded ops a.tmps) = true) (hnd : nd o.op = true) (hf : zz0 o.op = false) (hs : zx4 o.op = false) (hl : lays o.op = false) (hΦ : Φ k = some φ) (hrs : zN5 Φ o k = some H)
    (hv : ∀ w, RepN w0 w (rst (anc ops) k N) (H ++ L) → zJ4 w0 w H φ ((execOp a.eval o).run P w)) (h : ∀ u M, φ u M → Inh ops Φ w0 (upd N k (some M)) L → K (a.put o.dst u) (upd N k (some M)) L) : zt1 P ops w0 (anc ops) Φ o k K a N L := by
  unfold zt1
  rw [if_neg (by simp [hs])]
  unfold Safe OutM
  simp only [hwt, hf, hl, hΦ, hrs, if_true, Bool.false_eq_true, if_false]
  refine ⟨⟨hnd, hv⟩, ?_⟩
  rintro u Mo ⟨M, hu, rfl, _⟩ hinh
  exact h u M hu hinh
def nq (op : Op) : Bool := nd op && !lays op && !zx4 op && !zz0 op
theorem zA4 {op : Op} {v : Value} (hnd : nq op = true) (hd : Nat.ble (d + 1) n = true) (hΦ : Φ k = none) (hJ : SubJ ((anc ops).getD k 0) J1 J)
    (hv : ∀ a w, Fr n D F a → Rep w0 w (za9 J1 L) → (execOp a.eval ⟨some d, op, ty, pos, af, none⟩).run P w = .ok (.value v) w)
    (h : St n D w0 ((d, v) :: F) L (WQ P ops w0 L Φ X (k + 1) J rest)) : St n D w0 F L (WQ P ops w0 L Φ X k J (⟨some d, op, ty, pos, af, none⟩ :: rest)) := by
  intro a w ha hw N hN hinh
  simp only [nq, Bool.and_eq_true, Bool.not_eq_true'] at hnd
  obtain ⟨⟨⟨h1, h2⟩, h3⟩, h4⟩ := hnd
  refine yv6 (zg6 rfl) h1 h4 h3 h2 hΦ hinh (fun w' hw' => ?_) (h _ w (ha.put (Nat.le_of_ble_eq_true hd) v) hw _ hN.still hinh)
  rw [hv a w' ha ((hN.lm.rst hJ).rep hw')]
  exact ⟨rfl, rfl⟩
theorem zl5 {op : Op} {v : Value} (hnd : (nd op && zz0 op) = true) (hd : Nat.ble (d + 1) n = true)
    (hv : ∀ a w, Fr n D F a → True → (execOp a.eval ⟨some d, op, ty, pos, af, none⟩).run P w = .ok (.value v) w)
    (h : St n D w0 ((d, v) :: F) L (WQ P ops w0 L Φ X (k + 1) J rest)) : St n D w0 F L (WQ P ops w0 L Φ X k J (⟨some d, op, ty, pos, af, none⟩ :: rest)) := by
  intro a w ha hw N hN hinh
  simp only [Bool.and_eq_true] at hnd
  exact yI4 (zg6 rfl) hnd.1 hnd.2 (fun w' => hv a w' ha trivial) (h _ w (ha.put (Nat.le_of_ble_eq_true hd) v) hw _ hN.still hinh)
theorem yo5 {op : Op} {vf : Nat → Value} {x : Obj} (hnd : (nd op && lays op) = true) (hd : Nat.ble (d + 1) n = true)
    (hv : ∀ a w, Fr n D F a → (execOp a.eval ⟨some d, op, ty, pos, af, none⟩).run P w = .ok (.value (vf w.heap.size)) (w.alloc x))
    (h : ∀ b, St n D w0 ((d, vf b) :: F) L (WQ P ops w0 L Φ X (k + 1) ((k, [⟨b, x, true⟩]) :: J) rest)) : St n D w0 F L (WQ P ops w0 L Φ X k J (⟨some d, op, ty, pos, af, none⟩ :: rest)) := by
  intro a w ha hw N hN hinh
  simp only [Bool.and_eq_true] at hnd
  exact yK4 (zg6 rfl) hnd.1 hnd.2 (fun w' => hv a w' ha) (fun b hinh' => h b _ w (ha.put (Nat.le_of_ble_eq_true hd) _) hw _ (hN.add _) hinh')
theorem zD9 {e : TypeId} {z : Value} {l : List Value} [TZ P e z l] (hd : Nat.ble (d + 1) n = true)
    (h : ∀ b, St n D w0 ((d, .pointer (some ⟨b, 0, none⟩)) :: F) L (WQ P ops w0 L Φ X (k + 1) ((k, [⟨b, Ce l e, true⟩]) :: J) rest)) :
    St n D w0 F L (WQ P ops w0 L Φ X k J (⟨some d, .alloc e, ty, pos, af, none⟩ :: rest)) :=
  yo5 (vf := fun b => .pointer (some ⟨b, 0, none⟩)) rfl hd (fun a w _ => by
    simp [execOp, Instr.alloc, TZ.h (P := P) (t := e), newVar, newRow, TZ.hc (P := P) (t := e)]) h
theorem yL2 {e : TypeId} {x : Operand} {v : Value} {l : List Value} (hx : ev F x = some v) (hv : v.cells = l.toArray) (hd : Nat.ble (d + 1) n = true)
    (h : ∀ b, St n D w0 ((d, .pointer (some ⟨b, 0, none⟩)) :: F) L (WQ P ops w0 L Φ X (k + 1) ((k, [⟨b, Ce l e, true⟩]) :: J) rest)) :
    St n D w0 F L (WQ P ops w0 L Φ X k J (⟨some d, .box e x, ty, pos, af, none⟩ :: rest)) :=
  yo5 (vf := fun b => .pointer (some ⟨b, 0, none⟩)) rfl hd (fun a w ha => by
    simp [execOp, Instr.box, ha.eval hx, newVar, newRow, hv]) h
theorem ya4 {t e : TypeId} {kk m : Nat} {z : Value} {zl zs out : List Value} {xs : List (Nat × Operand)} {vs : List (Nat × Value)} (hU : TU P t (.slice e)) (hS : TS P e kk) (hZ : TZ P e z zl) (hm : m * kk ≤ 16777216) (hk : zl.length = kk) (hk0 : 0 < kk)
    (hzs : (List.replicate m zl).flatten = zs) (hxs : Parts F xs vs) (hf : Fill (fun i => some (i * kk, kk)) zs vs out) (hd : Nat.ble (d + 1) n = true)
    (h : ∀ b, St n D w0 ((d, .slice (some ⟨b, 0, none⟩) m m) :: F) L (WQ P ops w0 L Φ X (k + 1) ((k, [⟨b, Ce out e, true⟩]) :: J) rest)) :
    St n D w0 F L (WQ P ops w0 L Φ X k J (⟨some d, .buildSlice t m xs.toArray, ty, pos, af, none⟩ :: rest)) :=
  yo5 (vf := fun b => .slice (some ⟨b, 0, none⟩) m m) rfl hd (fun a w ha => run_buildSlice hU hS hZ hm hk hk0 hzs hxs hf ha) h
theorem yf0 {t e : TypeId} {kk bytes m c : Nat} {kl kc : IntKind} {z : Value} {zl : List Value} {x y : Operand} (hU : TU P t (.slice e)) (hE : TE P e kk bytes z) (hzl : z.cells = zl.toArray) (hx : ev F x = some (.int kl m)) (hy : ev F y = some (.int kc c)) (hk : zl.length = kk) (hk0 : 0 < kk)
    (hm : m ≤ c ∧ c ≤ 140737488355328 ∧ c * bytes ≤ 140737488355328) (hd : Nat.ble (d + 1) n = true)
    (h : ∀ b, St n D w0 ((d, .slice (some ⟨b, 0, none⟩) m c) :: F) L (WQ P ops w0 L Φ X (k + 1) ((k, [⟨b, Ce ((List.replicate c zl).flatten) e, true⟩]) :: J) rest)) :
    St n D w0 F L (WQ P ops w0 L Φ X k J (⟨some d, .makeSlice t x y, ty, pos, af, none⟩ :: rest)) :=
  yo5 (vf := fun b => .slice (some ⟨b, 0, none⟩) m c) rfl hd (fun a w ha => run_makeSlice hU hE hzl hx hy hk hk0 hm ha) h
theorem yy3 {t e : TypeId} {kk : Nat} {x y : Operand} {b off : Nat} {v : Value} {l l' vs : List Value} {L' : List Ent} [TS P t kk] (hx : ev F x = some (.pointer (some ⟨b, off, none⟩))) (hy : ev F y = some v) (hvs : v.cells = vs.toArray) (hk : vs.length = kk)
    (h1 : ∀ u ∈ vs, u.oneCell' = true) (hl : off + vs.length ≤ l.length) (hl' : l' = l.take off ++ vs ++ l.drop (off + vs.length)) (hu : Upd L b (Ce l e) (Ce l' e) L')
    (h : St n D w0 F L' (WQ P ops w0 L' Φ X (k + 1) J rest)) :
    St n D w0 F L (WQ P ops w0 L Φ X k J (⟨none, .store t x y, ty, pos, af, none⟩ :: rest)) := by
  intro a w ha hw N hN hinh
  subst hk
  have hrun : ∀ w1, w1.heap[b]? = some (Ce l e) → (execOp a.eval ⟨none, .store t x y, ty, pos, af, none⟩).run P w1 = .ok .skip (w1.setRow b l'.toArray) := fun w1 hb => by
    have hst := zz6 (P := P) (t := t) (TS.h w1) hvs hb h1 hl hl'
    simp [execOp, ha.eval hx, ha.eval hy, Instr.storeAt, Instr.sureAddr, hst]
  have hb := hw.at hu.at
  have hstep : ∀ w1, RepN w0 w1 N (zk3 ops Φ N ++ L) → ∃ w', (execOp a.eval ⟨none, .store t x y, ty, pos, af, none⟩).run P w1 = .ok .skip w' ∧ RepN w0 w' N (zk3 ops Φ N ++ L') := fun w1 hw1 => by
    have hb1 := hw1.rep.at hu.at.right
    exact ⟨_, hrun w1 hb1, hw1.turnL hu.right rfl rfl rfl (by simp) (setRow_heap w1 b _ _ e _ hb1) (fun k hk => setRow_other w1 b k _ hk)⟩
  unfold wpG zt1
  rw [if_pos (by rw [zg6 rfl]; rfl)]
  refine ⟨rfl, N, L', fun _ => Iff.rfl, hstep, ?_⟩
  obtain ⟨w1, hw1⟩ := hinh
  obtain ⟨w2, _, hw2⟩ := hstep w1 hw1
  exact h a (w.setRow b l'.toArray) ha (hw.turn hu rfl rfl rfl (by simp) (setRow_heap w b _ _ e _ hb) (fun k hk => setRow_other w b k _ hk)) _ hN.still ⟨w2, hw2⟩
theorem yr8 {t e : TypeId} {kk : Nat} {x y : Operand} {b off : Nat} {v : Value} {l l' vs : List Value} {J' : Made} [TS P t kk] (hx : ev F x = some (.pointer (some ⟨b, off, none⟩))) (hy : ev F y = some v) (hvs : v.cells = vs.toArray) (hk : vs.length = kk)
    (h1 : ∀ u ∈ vs, u.oneCell' = true) (hl : off + vs.length ≤ l.length) (hl' : l' = l.take off ++ vs ++ l.drop (off + vs.length)) (hu : UpdJ J b (Ce l e) (Ce l' e) J')
    (h : St n D w0 F L (WQ P ops w0 L Φ X (k + 1) J' rest)) :
    St n D w0 F L (WQ P ops w0 L Φ X k J (⟨none, .store t x y, ty, pos, af, none⟩ :: rest)) := by
  intro a w ha hw N hN hinh
  subst hk
  have hrun : ∀ w1, w1.heap[b]? = some (Ce l e) → (execOp a.eval ⟨none, .store t x y, ty, pos, af, none⟩).run P w1 = .ok .skip (w1.setRow b l'.toArray) := fun w1 hb => by
    have hst := zz6 (P := P) (t := t) (TS.h w1) hvs hb h1 hl hl'
    simp [execOp, ha.eval hx, ha.eval hy, Instr.storeAt, Instr.sureAddr, hst]
  obtain ⟨j, M, M0, M0', R, g1, g2, g3, g4⟩ := hN.turn hu
  have hmask : zk3 ops Φ (upd N j (some (M0' ++ R))) = zk3 ops Φ N := yw2 fun i => by
    by_cases e1 : i = j
    · subst e1; rw [upd_same, g1]; simp
    · rw [zd4 e1]
  have hstep : ∀ w1, RepN w0 w1 N (zk3 ops Φ N ++ L) → ∃ w', (execOp a.eval ⟨none, .store t x y, ty, pos, af, none⟩).run P w1 = .ok .skip w' ∧ RepN w0 w' (upd N j (some (M0' ++ R))) (zk3 ops Φ (upd N j (some (M0' ++ R))) ++ L) := fun w1 hw1 => by
    rw [hmask]
    have h7 := hw1.all [j] (by simp) (fun i hi => by simp at hi; subst hi; rw [g1]; simp)
    rw [zt0 g1] at h7
    have hb1 : w1.heap[b]? = some (Ce l e) := (h7.perm ((g2.append_right _).append_right _)).at (by
      rw [List.append_assoc, List.append_assoc]; exact (g3.left).at)
    exact ⟨_, hrun w1 hb1, hw1.turnN g1 g2 g3 rfl rfl rfl (by simp) (setRow_heap w1 _ _ _ e _ hb1) (fun k hk => setRow_other w1 _ k _ hk)⟩
  unfold wpG zt1
  rw [if_pos (by rw [zg6 rfl]; rfl)]
  refine ⟨rfl, upd N j (some (M0' ++ R)), L, fun i => ?_, hstep, ?_⟩
  · by_cases e1 : i = j
    · subst e1; rw [upd_same, g1]; simp
    · rw [zd4 e1]
  · obtain ⟨w1, hw1⟩ := hinh
    obtain ⟨w2, _, hw2⟩ := hstep w1 hw1
    exact h a w ha hw _ g4 ⟨w2, hw2⟩
theorem yr7 {t e : TypeId} {kk : Nat} {x y : Operand} {b off : Nat} {vs l l' : List Value} {J' : Made} (hS : TS P t kk) (hx : ev F x = some (.pointer (some ⟨b, off, none⟩))) (hy : ev F y = some (.agg vs.toArray)) (hk : vs.length = kk)
    (h1 : vs.all (·.oneCell') = true) (hat : At (za9 J []) b (Ce l e)) (hp : LPut l off vs l') (hu : UpdJ J b (Ce l e) (Ce l' e) J') (h : St n D w0 F L (WQ P ops w0 L Φ X (k + 1) J' rest)) :
    St n D w0 F L (WQ P ops w0 L Φ X k J (⟨none, .store t x y, ty, pos, af, none⟩ :: rest)) :=
  yr8 hx hy rfl hk (by simpa using h1) hp.eq.1 hp.eq.2 hu h
theorem yf1 {α : Type} {enc : α → List Value} {t e : TypeId} {kl kk m o : Nat} {x y : Operand} {b p : Nat} {v : Value} {xs : List α} {z : α} (z' : α) {s vs : List Value} {L' : List Ent} (hS : TS P t kk) (hx : ev F x = some (.pointer (some ⟨b, p, none⟩))) (hy : ev F y = some v)
    (hat : At L b (Ce (xs.flatMap enc ++ s) e)) (hz : xs[m]? = some z) (henc : ∀ x, (enc x).length = kl) (hp : p = m * kl + o) (hvs : v.cells = vs.toArray) (hlen : vs.length = kk) (h1 : ∀ u ∈ vs, u.oneCell' = true) (ho : o + vs.length ≤ kl)
    (he : enc z' = (enc z).take o ++ vs ++ (enc z).drop (o + vs.length)) (hu : Upd L b (Ce (xs.flatMap enc ++ s) e) (Ce ((xs.set m z').flatMap enc ++ s) e) L')
    (h : St n D w0 F L' (WQ P ops w0 L' Φ X (k + 1) J rest)) :
    St n D w0 F L (WQ P ops w0 L Φ X k J (⟨none, .store t x y, ty, pos, af, none⟩ :: rest)) := by
  subst hp
  exact yy3 (kk := kk) hx hy hvs hlen h1 (zV8 henc hz ho) (zL2 henc xs s m z z' hz o vs he ho) hu h
theorem ya5 {f : FuncId} {fn : Func} [TC P f fn] {x : Operand} {caps : Array Value} {xs : List Operand} {vs : List Value} {ats : Array TypeId} {v : Value} (hx : ev F x = some (.func (.func f) #[] caps))
    (hd : Nat.ble (d + 1) n = true) (hi : P.inits.idxOf? f = none) (hΦ : Φ k = none) (hJ : SubJ ((anc ops).getD k 0) J1 J) (hxs : Evs F xs vs)
    (hc : ∀ w, Rep w0 w (za9 J1 L) → Calls P f (vs.toArray ++ caps) w fun e w' => e = .returned v ∧ Below w.heap.size w w')
    (h : St n D w0 ((d, v) :: F) L (WQ P ops w0 L Φ X (k + 1) J rest)) :
    St n D w0 F L (WQ P ops w0 L Φ X k J (⟨some d, .call ⟨.value x, xs.toArray, ats⟩, ty, pos, af, none⟩ :: rest)) := by
  intro a w ha hw N hN hinh
  refine yv6 (zg6 rfl) rfl rfl rfl rfl hΦ hinh (fun w' hw' => ?_) (h _ w (ha.put (Nat.le_of_ble_eq_true hd) v) hw _ hN.still hinh)
  rw [zG2 (hxs.map ha) (ha.eval hx)]
  exact ⟨rfl, hi, hc w' ((hN.lm.rst hJ).rep hw')⟩
theorem ye8 {f : FuncId} {fn : Func} [TC P f fn] {x : Operand} {caps : Array Value} {xs : List Operand} {vs : List Value} {ats : Array TypeId} {φ : Value → List Ent → Prop} (hx : ev F x = some (.func (.func f) #[] caps))
    (hd : Nat.ble (d + 1) n = true) (hΦ : Φ k = some φ) (hJ : SubJ ((anc ops).getD k 0) J1 J) (hxs : Evs F xs vs)
    (hc : ∀ w, Rep w0 w (za9 J1 L) → Calls P f (vs.toArray ++ caps) w fun e w' => ∃ v N, e = .returned v ∧ φ v N ∧ Rep w w' N ∧ ∀ x ∈ N, x.own = true)
    (h : ∀ v N, φ v N → St n D w0 ((d, v) :: F) L (WQ P ops w0 L Φ X (k + 1) ((k, N) :: J) rest)) :
    St n D w0 F L (WQ P ops w0 L Φ X k J (⟨some d, .call ⟨.value x, xs.toArray, ats⟩, ty, pos, af, none⟩ :: rest)) := by
  intro a w ha hw N hN hinh
  refine yK5 (zg6 rfl) rfl rfl rfl rfl hΦ (yF2 rfl) (fun w' hw' => ?_) (fun u M hu hinh' => h u M hu _ w (ha.put (Nat.le_of_ble_eq_true hd) u) hw _ (hN.add _) hinh')
  rw [zG2 (hxs.map ha) (ha.eval hx)]
  exact ⟨rfl, hc w' ((hN.lm.rst hJ).rep hw')⟩
theorem t9 {f : FuncId} {fn : Func} [TC P f fn] {xs : List Operand} {vs : List Value} {ats : Array TypeId} {v : Value}
    (hd : Nat.ble (d + 1) n = true) (hi : P.inits.idxOf? f = none) (hΦ : Φ k = none) (hJ : SubJ ((anc ops).getD k 0) J1 J) (hxs : Evs F xs vs)
    (hc : ∀ w, Rep w0 w (za9 J1 L) → Calls P f vs.toArray w fun e w' => e = .returned v ∧ Below w.heap.size w w')
    (h : St n D w0 ((d, v) :: F) L (WQ P ops w0 L Φ X (k + 1) J rest)) :
    St n D w0 F L (WQ P ops w0 L Φ X k J (⟨some d, .call ⟨.value (.func f), xs.toArray, ats⟩, ty, pos, af, none⟩ :: rest)) :=
  ya5 (x := .func f) (caps := #[]) rfl hd hi hΦ hJ hxs (fun w hw => by rw [Array.append_empty]; exact hc w hw) h
theorem d6 {f : FuncId} {fn : Func} [TC P f fn] {xs : List Operand} {vs : List Value} {ats : Array TypeId} {φ : Value → List Ent → Prop}
    (hd : Nat.ble (d + 1) n = true) (hΦ : Φ k = some φ) (hJ : SubJ ((anc ops).getD k 0) J1 J) (hxs : Evs F xs vs)
    (hc : ∀ w, Rep w0 w (za9 J1 L) → Calls P f vs.toArray w fun e w' => ∃ v N, e = .returned v ∧ φ v N ∧ Rep w w' N ∧ ∀ x ∈ N, x.own = true)
    (h : ∀ v N, φ v N → St n D w0 ((d, v) :: F) L (WQ P ops w0 L Φ X (k + 1) ((k, N) :: J) rest)) :
    St n D w0 F L (WQ P ops w0 L Φ X k J (⟨some d, .call ⟨.value (.func f), xs.toArray, ats⟩, ty, pos, af, none⟩ :: rest)) :=
  ye8 (x := .func f) (caps := #[]) rfl hd hΦ hJ hxs (fun w hw => by rw [Array.append_empty]; exact hc w hw) h
theorem yj3 {d : Option Tmp} {op : Op} {j : Nat} {b : Bool} {K : Act → zd1 → List Ent → Prop} {a : Act} {N : zd1} (hw : Region.wanted ⟨d, op, ty, pos, af, some (j, b)⟩ (yielded ops a.tmps) = true)
    (h : zt1 P ops w0 (anc ops) Φ ⟨d, op, ty, pos, af, none⟩ k K a N L) : zt1 P ops w0 (anc ops) Φ ⟨d, op, ty, pos, af, some (j, b)⟩ k K a N L := by
  unfold zt1 Safe OutM at *
  rw [hw]
  rw [zg6 rfl] at h
  exact h
theorem zt3 {d : Option Tmp} {op : Op} {j : Nat} {b : Bool} {c : Bool} (hj : gv ops F j = some (.bool c)) (hc : c = b)
    (h : St n D w0 F L (WQ P ops w0 L Φ X k J (⟨d, op, ty, pos, af, none⟩ :: rest))) : St n D w0 F L (WQ P ops w0 L Φ X k J (⟨d, op, ty, pos, af, some (j, b)⟩ :: rest)) := by
  intro a w ha hw N hN hinh
  subst hc
  exact yj3 (by simp [Region.wanted, zA3 ha hj]) (h a w ha hw N hN hinh)
theorem zv7 {op : Op} {j : Nat} {b : Bool} {c : Bool} (hj : gv ops F j = some (.bool c)) (hc : c = !b) (hd : Nat.ble (d + 1) n = true)
    (h : St n D w0 ((d, undef) :: F) L (WQ P ops w0 L Φ X (k + 1) J rest)) : St n D w0 F L (WQ P ops w0 L Φ X k J (⟨some d, op, ty, pos, af, some (j, b)⟩ :: rest)) := by
  intro a w ha hw N hN hinh
  subst hc
  exact zV9 (by simp [Region.wanted, zA3 ha hj]) (h _ w (ha.put (Nat.le_of_ble_eq_true hd) undef) hw _ hN.still hinh)
theorem zH4 {op : Op} {j : Nat} {b : Bool} (hj : gv ops F j = some undef) (hd : Nat.ble (d + 1) n = true)
    (h : St n D w0 ((d, undef) :: F) L (WQ P ops w0 L Φ X (k + 1) J rest)) : St n D w0 F L (WQ P ops w0 L Φ X k J (⟨some d, op, ty, pos, af, some (j, b)⟩ :: rest)) := by
  intro a w ha hw N hN hinh
  exact zV9 (by simp [Region.wanted, zF2 ha hj]) (h _ w (ha.put (Nat.le_of_ble_eq_true hd) undef) hw _ hN.still hinh)
theorem yC4 {d : Option Tmp} {op : Op} {j : Nat} {b : Bool} {c : Bool} (hj : gv ops F j = some (.bool c))
    (ht : c = true → St n D w0 F L (WQ P ops w0 L Φ X k J (⟨d, op, ty, pos, af, some (j, b)⟩ :: rest))) (hf : c = false → St n D w0 F L (WQ P ops w0 L Φ X k J (⟨d, op, ty, pos, af, some (j, b)⟩ :: rest))) :
    St n D w0 F L (WQ P ops w0 L Φ X k J (⟨d, op, ty, pos, af, some (j, b)⟩ :: rest)) := by
  cases c
  · exact hf rfl
  · exact ht rfl
theorem zx2 {d : Option Tmp} {op : Op} {j : Nat} {b : Bool} {p : Prop} {_ : Decidable p} (hj : gv ops F j = some (.bool (decide p)))
    (ht : p → St n D w0 F L (WQ P ops w0 L Φ X k J (⟨d, op, ty, pos, af, some (j, b)⟩ :: rest))) (hf : ¬ p → St n D w0 F L (WQ P ops w0 L Φ X k J (⟨d, op, ty, pos, af, some (j, b)⟩ :: rest))) :
    St n D w0 F L (WQ P ops w0 L Φ X k J (⟨d, op, ty, pos, af, some (j, b)⟩ :: rest)) := yC4 hj (fun h => ht (of_decide_eq_true h)) (fun h => hf (of_decide_eq_false h))
theorem yx0 {x : Oper} {xs ys : List Oper} (h : St n D w0 F L (WL r P ops Q (x :: List.append xs ys))) : St n D w0 F L (WL r P ops Q (List.append (x :: xs) ys)) := h
theorem yx1 {ys : List Oper} (h : St n D w0 F L (WL r P ops Q ys)) : St n D w0 F L (WL r P ops Q (List.append [] ys)) := h
end
end Go.Sx
namespace Go.Sx
open Go Go.RowKit
def str (l : List UInt8) : Value := .string ⟨l.toArray⟩
section
variable {r : Option Nat} {P : Program} {n : Nat} {D : List Deferred} {w0 : World} {F : List (Nat × Value)} {L : List Ent} {Q : Exit → Act → World → Prop} {ops : Array Oper}
variable {d : Tmp} {ty : TypeId} {pos : String} {af : Array Edge} {rest : List Oper}
end
end Go.Sx
