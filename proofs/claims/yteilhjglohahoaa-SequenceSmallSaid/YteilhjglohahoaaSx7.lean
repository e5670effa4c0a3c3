/- Slices: made, cut, indexed, appended to. No program in sight. -/
import Derived.Test.YteilhjglohahoaaSx6
set_option linter.unusedVariables false
namespace Go.Sx
open Go Go.RowKit

/-- What the table has of an element type: cells, bytes, the zero value. -/
class TE (P : Program) (e : TypeId) (k : outParam Nat) (bytes : outParam Nat) (z : outParam Value) : Prop where
  h : ∃ i : TypeInfo, P.info? e = some i ∧ i.zero = some z ∧ i.size = k ∧ i.bytes = bytes

section
variable {r : Option Nat} {P : Program} {n : Nat} {D : List Deferred} {w0 : World} {F : List (Nat × Value)} {L : List Ent} {Q : Exit → Act → World → Prop} {ops : Array Oper}
variable {d : Tmp} {ty : TypeId} {pos : String} {af : Array Edge} {rest : List Oper}

/-! ## reading cells of lists -/
theorem flat_get {α : Type} {enc : α → List Value} {k : Nat} (hk : ∀ x, (enc x).length = k) : ∀ (xs : List α) (s : List Value) (i : Nat) (x : α), xs[i]? = some x → ∀ j v, (enc x)[j]? = some v → (xs.flatMap enc ++ s)[i * k + j]? = some v
  | [], _, _, _, h => by simp at h
  | y :: ys, s, 0, x, h => by
    intro j v hj
    simp at h; subst h
    have hlt := (List.getElem?_eq_some_iff.1 hj).1
    simp only [List.flatMap_cons, List.append_assoc, Nat.zero_mul, Nat.zero_add]
    rw [List.getElem?_append_left hlt]; exact hj
  | y :: ys, s, i + 1, x, h => by
    intro j v hj
    have ih := flat_get hk ys s i x (by simpa using h) j v hj
    simp only [List.flatMap_cons, List.append_assoc]
    rw [List.getElem?_append_right (by rw [hk, Nat.add_mul]; omega)]
    rw [hk, show (i + 1) * k + j - k = i * k + j from by rw [Nat.add_mul]; omega]
    exact ih
theorem flat_len {α : Type} {enc : α → List Value} {k : Nat} (hk : ∀ x, (enc x).length = k) (xs : List α) : (xs.flatMap enc).length = xs.length * k := by
  induction xs with
  | nil => simp
  | cons x xs ih => simp only [List.flatMap_cons, List.length_append, hk, ih, List.length_cons, Nat.add_mul]; omega

/-- A load of one cell out of a row of known cells. -/
theorem o_loadC {t e : TypeId} {x : Operand} {b off : Nat} {c : Array Value} {fz : Nat × Nat} {v : Value} (hA : TA P t false) (hx : ev F x = some (.pointer (some ⟨b, off, none⟩))) (hk : Kn w0 L b (.cells c e fz)) (hv : c[off]? = some v)
    (hd : Nat.ble (d + 1) n = true) (h : St n D w0 ((d, v) :: F) L (WL r P ops Q rest)) : St n D w0 F L (WL r P ops Q (⟨some d, .load t x, ty, pos, af, none⟩ :: rest)) := o_load1 hx hk hv hd h
theorem o_loadM {t e : TypeId} {k : Nat} {x : Operand} {b off : Nat} {c : Array Value} {fz : Nat × Nat} {l : List Value} (hA : TA P t true) (hS : TS P t k) (hx : ev F x = some (.pointer (some ⟨b, off, none⟩))) (hk : Kn w0 L b (.cells c e fz))
    (hl : l.length = k) (hv : ∀ j v, l[j]? = some v → c[off + j]? = some v)
    (hd : Nat.ble (d + 1) n = true) (h : St n D w0 ((d, .agg l.toArray) :: F) L (WL r P ops Q rest)) : St n D w0 F L (WL r P ops Q (⟨some d, .load t x, ty, pos, af, none⟩ :: rest)) := o_loadN hx hk hl hv hd h

theorem o_loadCO {t e : TypeId} {x : Operand} {b off : Nat} {c : Array Value} {fz : Nat × Nat} {v : Value} (o' : Nat) (hA : TA P t false) (hx : ev F x = some (.pointer (some ⟨b, off, none⟩))) (he : off = o') (hk : Kn w0 L b (.cells c e fz)) (hv : c[o']? = some v)
    (hd : Nat.ble (d + 1) n = true) (h : St n D w0 ((d, v) :: F) L (WL r P ops Q rest)) : St n D w0 F L (WL r P ops Q (⟨some d, .load t x, ty, pos, af, none⟩ :: rest)) := o_load1 hx hk (by rw [he]; exact hv) hd h
theorem o_loadMO {t e : TypeId} {k : Nat} {x : Operand} {b off : Nat} {c : Array Value} {fz : Nat × Nat} {l : List Value} (o' : Nat) (hA : TA P t true) (hS : TS P t k) (hx : ev F x = some (.pointer (some ⟨b, off, none⟩))) (he : off = o') (hk : Kn w0 L b (.cells c e fz))
    (hl : l.length = k) (hv : ∀ j v, l[j]? = some v → c[o' + j]? = some v)
    (hd : Nat.ble (d + 1) n = true) (h : St n D w0 ((d, .agg l.toArray) :: F) L (WL r P ops Q rest)) : St n D w0 F L (WL r P ops Q (⟨some d, .load t x, ty, pos, af, none⟩ :: rest)) := o_loadN hx hk hl (by rw [he]; exact hv) hd h

/-! ## slices made -/
theorem rep_cells (m k : Nat) (zl : List Value) (hk : zl.length = k) (hk0 : 0 < k) :
    (Array.range (m * k)).map ((if m * k = 0 then #[] else zl.toArray)[· % (if m * k = 0 then #[] else zl.toArray).size]!) = ((List.replicate m zl).flatten).toArray := by
  by_cases h0 : m * k = 0
  · have hm0 : m = 0 := by rcases Nat.mul_eq_zero.1 h0 with h | h <;> omega
    subst hm0; simp
  · simp only [h0, if_false]
    apply Array.ext'
    simp only [Array.toList_map, Array.toList_range, List.size_toArray, hk]
    clear h0
    induction m with
    | zero => simp
    | succ m ih =>
      rw [List.replicate_succ', List.flatten_append, ← ih, Nat.add_mul, Nat.one_mul, List.range_add, List.map_append]
      congr 1
      simp only [List.map_map]
      apply List.ext_getElem
      · simp [hk]
      · intro i h1 h2
        simp at h1
        simp [Nat.mod_eq_of_lt, hk, h1, Nat.add_mod, Nat.mul_mod_left]
theorem run_buildSlice {t e : TypeId} {k m : Nat} {z : Value} {zl zs out : List Value} {xs : List (Nat × Operand)} {vs : List (Nat × Value)} (hU : TU P t (.slice e)) (hS : TS P e k) (hZ : TZ P e z zl) (hm : m * k ≤ 16777216) (hk : zl.length = k) (hk0 : 0 < k)
    (hzs : (List.replicate m zl).flatten = zs) (hxs : Parts F xs vs) (hf : Fill (fun i => some (i * k, k)) zs vs out) {a : Act} {w : World} (ha : Fr n D F a) :
    (execOp a.eval ⟨some d, .buildSlice t m xs.toArray, ty, pos, af, none⟩).run P w = .ok (.value (.slice (some ⟨w.heap.size, 0, none⟩) m m)) (w.alloc (Ce out e)) := by
  subst hzs
  have hxs' := hxs.map ha
  have e1 : xs.toArray.map (fun x => match x with | (i, x) => (i, a.eval x)) = vs.toArray := by rw [← hxs']; simp
  have hcells := rep_cells m k zl hk hk0
  have hfe := hf.eq
  have hm' : ¬ (m * k > 2 ^ 24) := by omega
  simp only [execOp, e1, Instr.buildSlice, Sem.run_bind, run_under (TU.h (P := P) (t := t)), Result.andThen_ok, TS.h (P := P) (t := e), if_neg hm', Sem.run_pure]
  by_cases h0 : m * k = 0
  · have hm0 : m = 0 := by rcases Nat.mul_eq_zero.1 h0 with h | h <;> omega
    subst hm0
    have hfe' : Instr.fill (fun i => some (i * k, k)) #[] vs = some out.toArray := by simpa using hfe
    have hr0 : (Array.map (fun _ => (default : Value)) (Array.range 0)) = #[] := by simp
    simp [hr0, hfe', newRow]
  · simp only [h0, if_false] at hcells ⊢
    simp only [Sem.run_bind, TZ.h (P := P) (t := e), TZ.hc (P := P) (t := e), Result.andThen_ok, Sem.run_pure, hcells, hfe]
    simp [newRow]

theorem o_buildSlice {t e : TypeId} {k m : Nat} {z : Value} {zl zs out : List Value} {xs : List (Nat × Operand)} {vs : List (Nat × Value)} (hU : TU P t (.slice e)) (hS : TS P e k) (hZ : TZ P e z zl) (hm : m * k ≤ 16777216) (hk : zl.length = k) (hk0 : 0 < k)
    (hzs : (List.replicate m zl).flatten = zs) (hxs : Parts F xs vs) (hf : Fill (fun i => some (i * k, k)) zs vs out) (hd : Nat.ble (d + 1) n = true)
    (h : ∀ b, St n D w0 ((d, .slice (some ⟨b, 0, none⟩) m m) :: F) (⟨b, Ce out e, true⟩ :: L) (WL r P ops Q rest)) :
    St n D w0 F L (WL r P ops Q (⟨some d, .buildSlice t m xs.toArray, ty, pos, af, none⟩ :: rest)) :=
  o_plain rfl rfl fun a w ha hw => by
    rw [run_buildSlice hU hS hZ hm hk hk0 hzs hxs hf ha]
    exact h _ _ _ (ha.put (Nat.le_of_ble_eq_true hd) _) (hw.alloc _)

/-! ## append -/
/-- A slice of the call's own: nil, or at the head of a row of its own. -/
inductive OwnS (E : TypeId) (k : Nat) : Value → List Value → List Ent → Prop
  | nil : OwnS E k (.slice none 0 0) [] []
  | row {b m cap : Nat} {xs slack : List Value} : xs.length = m * k → (xs ++ slack).length = cap * k → m ≤ cap → OwnS E k (.slice (some ⟨b, 0, none⟩) m cap) xs [⟨b, Ce (xs ++ slack) E, true⟩]

theorem OwnS.parts {E : TypeId} {k : Nat} {v : Value} {xs : List Value} {N : List Ent} (h : OwnS E k v xs N) : (v = .slice none 0 0 ∧ xs = [] ∧ N = []) ∨
    ∃ b m cap slack, v = .slice (some ⟨b, 0, none⟩) m cap ∧ N = [⟨b, Ce (xs ++ slack) E, true⟩] ∧ xs.length = m * k ∧ (xs ++ slack).length = cap * k ∧ m ≤ cap := by
  cases h with
  | nil => exact .inl ⟨rfl, rfl, rfl⟩
  | row h1 h2 h3 => exact .inr ⟨_, _, _, _, rfl, rfl, h1, h2, h3⟩
theorem OwnS.own {E : TypeId} {k : Nat} {v : Value} {xs : List Value} {N : List Ent} (h : OwnS E k v xs N) : ∀ x ∈ N, x.own = true := by
  cases h <;> simp
theorem run_app {x y : Operand} {t : TypeId} {a : Act} {w w' : World} {u v res : Value} {g : Option (Nat × Bool)} (hx : a.eval x = u) (hy : a.eval y = v)
    (h : (Builtin.append_ #[t, t] ty #[u, v]).run P w = .ok res w') :
    (execOp a.eval ⟨some d, .call ⟨.builtin .append, #[x, y], #[t, t]⟩, ty, pos, af, g⟩).run P w = .ok (.value res) w' := by
  simp [execOp, resolve, invoke, builtin, hx, hy, h]

theorem o_append_nil {t e : TypeId} {k bytes : Nat} {z : Value} {x y : Operand} {bx ox m cx : Nat} {c : Array Value} {e' : TypeId} {fz : Nat × Nat} {ys : List Value} (hU : TU P t (.slice e)) (hE : TE P e k bytes z) (hzk : z.cells.size = k)
    (hx : ev F x = some (.slice none 0 0)) (hy : ev F y = some (.slice (some ⟨bx, ox, none⟩) m cx)) (hd : Nat.ble (d + 1) n = true) (hk : Kn w0 L bx (.cells c e' fz)) (hlen : ys.length = m * k) (hys : ∀ j u, ys[j]? = some u → c[ox + j]? = some u)
    (hm : 0 < m ∧ m * bytes ≤ 140737488355328 ∧ m ≤ 140737488355328)
    (h : ∀ b cap slack, m ≤ cap → (ys ++ slack).length = cap * k → St n D w0 ((d, .slice (some ⟨b, 0, none⟩) m cap) :: F) (⟨b, Ce (ys ++ slack) e, true⟩ :: L) (WL r P ops Q rest)) :
    St n D w0 F L (WL r P ops Q (⟨some d, .call ⟨.builtin .append, #[x, y], #[t, t]⟩, ty, pos, af, none⟩ :: rest)) :=
  o_plain rfl rfl fun a w ha hw => by
    obtain ⟨i, hi, hz, hik, hib⟩ := hE.h
    subst hik hib
    have hrun := run_append_nil (P := P) w t ty e i z hU.h hi hz ⟨bx, ox, none⟩ m cx ys hlen (fun j u hj => by rw [add_none]; simp [World.cell?, hk w hw, hys j u hj]) hm.1 (by omega) (by omega)
    rw [run_app (ha.eval hx) (ha.eval hy) hrun]
    have hge := grownCap_ge w m 0 e
    have hcells : ys.toArray ++ Builtin.zeroCells z.cells (grownCap w m 0 e - m) = (ys ++ (Builtin.zeroCells z.cells (grownCap w m 0 e - m)).toList).toArray := by
      apply Array.ext'; simp
    rw [hcells]
    refine h w.heap.size _ _ hge ?_ _ _ (ha.put (Nat.le_of_ble_eq_true hd) _) (hw.drew.alloc _)
    simp only [List.length_append, hlen, Array.length_toList, size_zeroCells, hzk]
    rw [← Nat.add_mul]; congr 1; omega

theorem o_append_row {t e : TypeId} {k bytes : Nat} {z : Value} {x y : Operand} {b0 m0 cap0 : Nat} {xs slack0 : List Value} {L0 : List Ent} {bx ox m cx : Nat} {c : Array Value} {e' : TypeId} {fz : Nat × Nat} {ys : List Value} (hU : TU P t (.slice e)) (hE : TE P e k bytes z) (hzk : z.cells.size = k)
    (hx : ev F x = some (.slice (some ⟨b0, 0, none⟩) m0 cap0)) (hy : ev F y = some (.slice (some ⟨bx, ox, none⟩) m cx)) (hd : Nat.ble (d + 1) n = true)
    (hrem : Rem L ⟨b0, Ce (xs ++ slack0) e, true⟩ L0) (hxl : xs.length = m0 * k) (hcl : (xs ++ slack0).length = cap0 * k)
    (hk : Kn w0 L bx (.cells c e' fz)) (hlen : ys.length = m * k) (hys : ∀ j u, ys[j]? = some u → c[ox + j]? = some u) (h1 : ys.all (·.oneCell') = true)
    (hm : (m0 + m) * bytes ≤ 140737488355328 ∧ m0 + m ≤ 140737488355328)
    (h : ∀ b cap slack, m0 + m ≤ cap → (xs ++ ys ++ slack).length = cap * k → St n D w0 ((d, .slice (some ⟨b, 0, none⟩) (m0 + m) cap) :: F) (⟨b, Ce (xs ++ ys ++ slack) e, true⟩ :: L0) (WL r P ops Q rest)) :
    St n D w0 F L (WL r P ops Q (⟨some d, .call ⟨.builtin .append, #[x, y], #[t, t]⟩, ty, pos, af, none⟩ :: rest)) :=
  o_plain rfl rfl fun a w ha hw => by
    obtain ⟨i, hi, hz, hik, hib⟩ := hE.h
    subst hik hib
    have hwp : Rep w0 w (⟨b0, Ce (xs ++ slack0) e, true⟩ :: L0) := hw.perm hrem.perm
    have hb0 : w.heap[b0]? = some (Ce (xs ++ slack0) e) := hwp.ok _ List.mem_cons_self
    have hnews : ∀ j u, ys[j]? = some u → w.cell? ((⟨bx, ox, none⟩ : Addr).add j) = some u := fun j u hj => by rw [add_none]; simp [World.cell?, hk w hw, hys j u hj]
    by_cases hroom : m0 + m ≤ cap0
    · have hsz : (xs ++ slack0).toArray.size = cap0 * i.size := by simpa using hcl
      have hmul : (m0 + m) * i.size ≤ cap0 * i.size := Nat.mul_le_mul_right _ hroom
      have hfit : m0 * i.size + ys.length ≤ (xs ++ slack0).toArray.size := by rw [hsz, hlen]; rw [Nat.add_mul] at hmul; exact hmul
      have hrun := run_append_room (P := P) w t ty e i hU.h hi b0 m0 cap0 (xs ++ slack0).toArray hb0 ⟨bx, ox, none⟩ m cx ys hlen hnews (by simpa using h1) hroom hfit
      rw [run_app (ha.eval hx) (ha.eval hy) hrun]
      have hcont : (xs ++ slack0).toArray.toList.take (m0 * i.size) ++ ys ++ (xs ++ slack0).toArray.toList.drop (m0 * i.size + ys.length) = xs ++ ys ++ slack0.drop ys.length := by
        simp only []
        rw [← hxl, List.take_left', List.drop_append, List.drop_of_length_le (by omega)]
        · simp
        · rfl
      rw [hcont]
      refine h b0 cap0 (slack0.drop ys.length) hroom ?_ _ _ (ha.put (Nat.le_of_ble_eq_true hd) _) (hwp.turn .hd rfl rfl rfl (by simp) (setRow_heap w b0 _ _ e _ hb0) (fun k hk => setRow_other w b0 k _ hk))
      have : (xs ++ slack0).length = xs.length + slack0.length := by simp
      have hs2 : m0 * i.size + ys.length ≤ cap0 * i.size := by rw [hlen]; rw [Nat.add_mul] at hmul; exact hmul
      simp only [List.length_append, List.length_drop]
      rw [this] at hcl
      omega
    · have hrun := run_append_grow (P := P) w t ty e i z hU.h hi hz ⟨b0, 0, none⟩ m0 cap0 xs hxl
        (fun j u hj => by
          rw [add_none]
          have hlt := (List.getElem?_eq_some_iff.1 hj).1
          simp [World.cell?, hb0, List.getElem?_append_left hlt, hj]) ⟨bx, ox, none⟩ m cx ys hlen hnews (by omega) (by omega) (growslice_fits (by omega) hm.1)
      rw [run_app (ha.eval hx) (ha.eval hy) hrun]
      have hge := grownCap_ge w (m0 + m) cap0 e
      have hcells : xs.toArray ++ ys.toArray ++ Builtin.zeroCells z.cells (grownCap w (m0 + m) cap0 e - (m0 + m)) = (xs ++ ys ++ (Builtin.zeroCells z.cells (grownCap w (m0 + m) cap0 e - (m0 + m))).toList).toArray := by
        apply Array.ext'; simp
      rw [hcells]
      have hdrop : Rep w0 w L0 := by
        refine ⟨hwp.os, hwp.tape, hwp.output, hwp.size, fun x hx => hwp.ok x (List.mem_cons_of_mem _ hx), fun x hx => hwp.own x (List.mem_cons_of_mem _ hx), ?_, fun b hb hx => hwp.frame b hb fun x hxL => ?_⟩
        · have := hwp.nd; simp only [List.map_cons, List.nodup_cons] at this; exact this.2
        · rcases List.mem_cons.1 hxL with rfl | hxL
          · intro e; have := hwp.own _ List.mem_cons_self rfl; simp only at this e; omega
          · exact hx x hxL
      refine h w.heap.size _ _ hge ?_ _ _ (ha.put (Nat.le_of_ble_eq_true hd) _) (hdrop.drew.alloc _)
      simp only [List.length_append, hxl, hlen, Array.length_toList, size_zeroCells, hzk]
      rw [← Nat.add_mul, ← Nat.add_mul]; congr 1; omega
/-- The source: a row of the call's own, known whole. -/
theorem o_appN {t e : TypeId} {k bytes : Nat} {z : Value} {x y : Operand} {bx m cx : Nat} {e' : TypeId} {ys : List Value} (hU : TU P t (.slice e)) (hE : TE P e k bytes z) (hzk : z.cells.size = k)
    (hx : ev F x = some (.slice none 0 0)) (hy : ev F y = some (.slice (some ⟨bx, 0, none⟩) m cx)) (hd : Nat.ble (d + 1) n = true) (hat : At L bx (Ce ys e')) (hlen : ys.length = m * k)
    (hm : 0 < m ∧ m * bytes ≤ 140737488355328 ∧ m ≤ 140737488355328)
    (h : ∀ b cap slack, m ≤ cap → (ys ++ slack).length = cap * k → St n D w0 ((d, .slice (some ⟨b, 0, none⟩) m cap) :: F) (⟨b, Ce (ys ++ slack) e, true⟩ :: L) (WL r P ops Q rest)) :
    St n D w0 F L (WL r P ops Q (⟨some d, .call ⟨.builtin .append, #[x, y], #[t, t]⟩, ty, pos, af, none⟩ :: rest)) :=
  o_append_nil hU hE hzk hx hy hd (Kn.at hat) hlen (fun j u hj => by simpa using hj) hm h
theorem o_appR {t e : TypeId} {k bytes : Nat} {z : Value} {x y : Operand} {b0 m0 cap0 : Nat} {xs slack0 : List Value} {L0 : List Ent} {bx m cx : Nat} {e' : TypeId} {ys : List Value} (hU : TU P t (.slice e)) (hE : TE P e k bytes z) (hzk : z.cells.size = k)
    (hx : ev F x = some (.slice (some ⟨b0, 0, none⟩) m0 cap0)) (hy : ev F y = some (.slice (some ⟨bx, 0, none⟩) m cx)) (hd : Nat.ble (d + 1) n = true)
    (hat0 : At L b0 (Ce (xs ++ slack0) e)) (hrem : Rem L ⟨b0, Ce (xs ++ slack0) e, true⟩ L0) (hxl : xs.length = m0 * k) (hcl : (xs ++ slack0).length = cap0 * k)
    (hat : At L bx (Ce ys e')) (hlen : ys.length = m * k) (h1 : ys.all (·.oneCell') = true)
    (hm : (m0 + m) * bytes ≤ 140737488355328 ∧ m0 + m ≤ 140737488355328)
    (h : ∀ b cap slack, m0 + m ≤ cap → (xs ++ ys ++ slack).length = cap * k → St n D w0 ((d, .slice (some ⟨b, 0, none⟩) (m0 + m) cap) :: F) (⟨b, Ce (xs ++ ys ++ slack) e, true⟩ :: L0) (WL r P ops Q rest)) :
    St n D w0 F L (WL r P ops Q (⟨some d, .call ⟨.builtin .append, #[x, y], #[t, t]⟩, ty, pos, af, none⟩ :: rest)) :=
  o_append_row hU hE hzk hx hy hd hrem hxl hcl (Kn.at hat) hlen (fun j u hj => by simpa using hj) h1 hm h

/-! ## elements of slices -/
/-- The address of a slice's element, its number known. -/
theorem o_idx {t e : TypeId} {k m : Nat} {x y : Operand} {b off len cap : Nat} {kk : IntKind} {i : Int} (hU : TU P t (.slice e)) (hS : TS P e k) (hx : ev F x = some (.slice (some ⟨b, off, none⟩) len cap)) (hy : ev F y = some (.int kk i)) (hm : i = (m : Int)) (hd : Nat.ble (d + 1) n = true)
    (hi : m < len) (h : St n D w0 ((d, .pointer (some ⟨b, off + m * k, none⟩)) :: F) L (WL r P ops Q rest)) : St n D w0 F L (WL r P ops Q (⟨some d, .indexAddr t x y, ty, pos, af, none⟩ :: rest)) :=
  o_val rfl hd (fun a w ha _ => by
    subst hm
    simp [execOp, ha.eval hx, ha.eval hy, Instr.indexAt, asIntOf, run_under (TU.h (P := P) (t := t)), hi, TS.h (P := P) (t := e), add_none]) h
/-- A whole element of several cells. -/
theorem o_ldV {t e : TypeId} {k : Nat} {x : Operand} {b off : Nat} {c : Array Value} {fz : Nat × Nat} {l : List Value} (hA : TA P t true) (hS : TS P t k) (hx : ev F x = some (.pointer (some ⟨b, off, none⟩))) (hk : Kn w0 L b (.cells c e fz))
    (hv : ∀ j v, l[j]? = some v → c[off + j]? = some v) (hl : l.length = k)
    (hd : Nat.ble (d + 1) n = true) (h : St n D w0 ((d, .agg l.toArray) :: F) L (WL r P ops Q rest)) : St n D w0 F L (WL r P ops Q (⟨some d, .load t x, ty, pos, af, none⟩ :: rest)) :=
  o_val rfl hd (fun a w ha hw => by
    subst hl
    have hc := run_loadCells_list (P := P) w ⟨b, off, none⟩ l (fun j v hj => by rw [add_none]; simp [World.cell?, hk w hw, hv j v hj])
    simp [execOp, ha.eval hx, Instr.loadAt, Instr.sureAddr, loadVar, TA.h (P := P) (t := t), TS.h (P := P) (t := t), hc]) h
/-- One cell of an element of several cells. -/
theorem o_ldF {t e : TypeId} {x : Operand} {b p o : Nat} {c : Array Value} {fz : Nat × Nat} {v : Value} {l : List Value} (hA : TA P t false) (hx : ev F x = some (.pointer (some ⟨b, p + o, none⟩))) (hk : Kn w0 L b (.cells c e fz))
    (hE : ∀ j v, l[j]? = some v → c[p + j]? = some v) (hv : Nth l o v)
    (hd : Nat.ble (d + 1) n = true) (h : St n D w0 ((d, v) :: F) L (WL r P ops Q rest)) : St n D w0 F L (WL r P ops Q (⟨some d, .load t x, ty, pos, af, none⟩ :: rest)) :=
  o_val rfl hd (fun a w ha hw => by
    have hc : w.cell? ⟨b, p + o, none⟩ = some v := by simp [World.cell?, hk w hw, hE o v hv.eq]
    simp [execOp, ha.eval hx, Instr.loadAt, Instr.sureAddr, loadVar, TA.h (P := P) (t := t), hc]) h
theorem slot_flat {α : Type} {enc : α → List Value} {k : Nat} (hk : ∀ x, (enc x).length = k) : ∀ (xs : List α) (s : List Value) (m : Nat) (x y : α), xs[m]? = some x → ∀ (o : Nat) (vs : List Value), enc y = (enc x).take o ++ vs ++ (enc x).drop (o + vs.length) → o + vs.length ≤ k →
    (xs.set m y).flatMap enc ++ s = (xs.flatMap enc ++ s).take (m * k + o) ++ vs ++ (xs.flatMap enc ++ s).drop (m * k + o + vs.length)
  | [], s, m, x, y, h, _, _, _, _ => by simp at h
  | z :: xs, s, 0, x, y, h, o, vs, he, ho => by
    simp at h; subst h
    have hz := hk z
    simp only [List.set_cons_zero, List.flatMap_cons, Nat.zero_mul, Nat.zero_add, List.append_assoc, he]
    rw [List.take_append_of_le_length (by omega), List.drop_append_of_le_length (by omega)]
  | z :: xs, s, m + 1, x, y, h, o, vs, he, ho => by
    have ih := slot_flat hk xs s m x y (by simpa using h) o vs he ho
    have hz := hk z
    simp only [List.set_cons_succ, List.flatMap_cons, List.append_assoc] at ih ⊢
    rw [show (m + 1) * k + o = k + (m * k + o) from by rw [Nat.add_mul]; omega]
    rw [List.take_append, List.take_of_length_le (by omega), hz, show k + (m * k + o) - k = m * k + o from by omega]
    rw [show k + (m * k + o) + vs.length = k + (m * k + o + vs.length) from by omega, List.drop_append, List.drop_of_length_le (by omega), hz, show k + (m * k + o + vs.length) - k = m * k + o + vs.length from by omega]
    rw [ih]; simp
theorem flat_room {α : Type} {enc : α → List Value} {k : Nat} (hk : ∀ x, (enc x).length = k) {xs : List α} {s : List Value} {m o : Nat} {x : α} {vs : List Value} (h : xs[m]? = some x) (ho : o + vs.length ≤ k) : m * k + o + vs.length ≤ (xs.flatMap enc ++ s).length := by
  have hlt := (List.getElem?_eq_some_iff.1 h).1
  have hfl := flat_len hk xs
  have : (m + 1) * k ≤ xs.length * k := Nat.mul_le_mul_right _ hlt
  rw [Nat.add_mul] at this
  simp only [List.length_append]
  omega
/-- One cell, or several, of an element of a row of the call's own. -/
theorem o_storeS {α : Type} {enc : α → List Value} {t e : TypeId} {k kk m o : Nat} {x y : Operand} {b p : Nat} {v : Value} {xs : List α} {z : α} (z' : α) {s vs : List Value} {L' : List Ent} (hS : TS P t kk) (hx : ev F x = some (.pointer (some ⟨b, p, none⟩))) (hy : ev F y = some v)
    (hat : At L b (Ce (xs.flatMap enc ++ s) e)) (hz : xs[m]? = some z) (henc : ∀ x, (enc x).length = k) (hp : p = m * k + o) (hvs : v.cells = vs.toArray) (hlen : vs.length = kk) (h1 : ∀ u ∈ vs, u.oneCell' = true) (ho : o + vs.length ≤ k)
    (he : enc z' = (enc z).take o ++ vs ++ (enc z).drop (o + vs.length)) (hu : Upd L b (Ce (xs.flatMap enc ++ s) e) (Ce ((xs.set m z').flatMap enc ++ s) e) L')
    (h : St n D w0 F L' (WL r P ops Q rest)) :
    St n D w0 F L (WL r P ops Q (⟨none, .store t x y, ty, pos, af, none⟩ :: rest)) := by
  subst hp
  exact o_storeG (k := kk) hx hy hvs hlen h1 (flat_room henc hz ho) (slot_flat henc xs s m z z' hz o vs he ho) hu h

/-! ## slices of slices, of texts; slices made -/
theorem run_sliceBounds2 {P : Program} {w : World} {isS : Bool} {len cap : Nat} {lo hi : Option Value} {l h : Nat} (hlo : lo = none ∧ l = 0 ∨ ∃ k, lo = some (.int k l)) (hhi : hi = none ∧ h = len ∨ ∃ k, hi = some (.int k h)) (h1 : l ≤ h) (h2 : h ≤ cap) :
    (Instr.sliceBounds isS len cap lo hi none).run P w = .ok (l, h, cap) w := by
  rcases hlo with ⟨rfl, rfl⟩ | ⟨k, rfl⟩ <;> rcases hhi with ⟨rfl, rfl⟩ | ⟨k', rfl⟩ <;> simp [Instr.sliceBounds, Instr.sliceBound, asIntOf, h1, h2]
def opv (F : List (Nat × Value)) : Option Operand → Option (Option Value)
  | none => some none
  | some x => (ev F x).map some
theorem opv_eval {a : Act} (ha : Fr n D F a) {x : Option Operand} {v : Option Value} (h : opv F x = some v) : x.map a.eval = v := by
  cases x with
  | none => simp [opv] at h; simp [h]
  | some x =>
    simp only [opv] at h
    cases hx : ev F x with
    | none => rw [hx] at h; cases h
    | some u => rw [hx] at h; simp at h; subst h; simp [ha.eval hx]
theorem o_slice {t e : TypeId} {k : Nat} {x : Operand} {lo hi : Option Operand} {vlo vhi : Option Value} {b off len cap l h' : Nat} (hU : TU P t (.slice e)) (hS : TS P e k) (hx : ev F x = some (.slice (some ⟨b, off, none⟩) len cap)) (h1 : opv F lo = some vlo) (h2 : opv F hi = some vhi)
    (hlo : vlo = none ∧ l = 0 ∨ ∃ k, vlo = some (.int k l)) (hhi : vhi = none ∧ h' = len ∨ ∃ k, vhi = some (.int k h')) (hb : l ≤ h' ∧ h' ≤ cap ∧ l < cap) (hd : Nat.ble (d + 1) n = true)
    (h : St n D w0 ((d, .slice (some ⟨b, off + l * k, none⟩) (h' - l) (cap - l)) :: F) L (WL r P ops Q rest)) : St n D w0 F L (WL r P ops Q (⟨some d, .slice t x lo hi none, ty, pos, af, none⟩ :: rest)) :=
  o_val rfl hd (fun a w ha _ => by
    have e1 := opv_eval ha h1
    have e2 := opv_eval ha h2
    have hne : ¬ cap = l := by omega
    have hsb := run_sliceBounds2 (P := P) (w := w) (isS := true) (len := len) (cap := cap) hlo hhi hb.1 hb.2.1
    simp [execOp, ha.eval hx, e1, e2, Instr.sliceAt, Instr.sliceAt, Instr.slice, run_under (TU.h (P := P) (t := t)), hsb, TS.h (P := P) (t := e), hne, add_none]) h
/-- A slice's head: where it begins stays. -/
theorem o_sliceH {t e : TypeId} {k : Nat} {x : Operand} {hi : Option Operand} {vhi : Option Value} {a0 : Option Addr} {len cap h' : Nat} (hU : TU P t (.slice e)) (hS : TS P e k) (hx : ev F x = some (.slice a0 len cap)) (h2 : opv F hi = some vhi)
    (hhi : vhi = none ∧ h' = len ∨ ∃ k, vhi = some (.int k h')) (hb : h' ≤ cap) (hd : Nat.ble (d + 1) n = true)
    (h : St n D w0 ((d, .slice a0 h' cap) :: F) L (WL r P ops Q rest)) : St n D w0 F L (WL r P ops Q (⟨some d, .slice t x none hi none, ty, pos, af, none⟩ :: rest)) :=
  o_val rfl hd (fun a w ha _ => by
    have e2 := opv_eval ha h2
    have hsb := run_sliceBounds2 (P := P) (w := w) (isS := true) (len := len) (cap := cap) (l := 0) (.inl ⟨rfl, rfl⟩) hhi (Nat.zero_le _) hb
    have e3 : (if cap = 0 then a0 else a0.map (·.add (0 * k))) = a0 := by
      split
      · rfl
      · cases a0 with
        | none => rfl
        | some p => simp [Addr.add]
    simp [execOp, ha.eval hx, e2, Instr.sliceAt, Instr.slice, run_under (TU.h (P := P) (t := t)), hsb, TS.h (P := P) (t := e)]
    intro _
    cases a0 with
    | none => rfl
    | some p => simp [Addr.add]) h
theorem o_sliceS {t : TypeId} {x : Operand} {lo hi : Option Operand} {vlo vhi : Option Value} {s : ByteArray} {l h' : Nat} (hU : TU P t .string) (hx : ev F x = some (.string s)) (h1 : opv F lo = some vlo) (h2 : opv F hi = some vhi)
    (hlo : vlo = none ∧ l = 0 ∨ ∃ k, vlo = some (.int k l)) (hhi : vhi = none ∧ h' = s.size ∨ ∃ k, vhi = some (.int k h')) (hb : l ≤ h' ∧ h' ≤ s.size) (hd : Nat.ble (d + 1) n = true)
    (h : St n D w0 ((d, .string (s.extract l h')) :: F) L (WL r P ops Q rest)) : St n D w0 F L (WL r P ops Q (⟨some d, .slice t x lo hi none, ty, pos, af, none⟩ :: rest)) :=
  o_val rfl hd (fun a w ha _ => by
    have e1 := opv_eval ha h1
    have e2 := opv_eval ha h2
    have hsb := run_sliceBounds2 (P := P) (w := w) (isS := false) (len := s.size) (cap := s.size) hlo hhi hb.1 hb.2
    simp [execOp, ha.eval hx, e1, e2, Instr.sliceAt, Instr.sliceAt, Instr.slice, run_under (TU.h (P := P) (t := t)), hsb]) h
theorem run_makeSlice {t e : TypeId} {k bytes m c : Nat} {kl kc : IntKind} {z : Value} {zl : List Value} {x y : Operand} (hU : TU P t (.slice e)) (hE : TE P e k bytes z) (hzl : z.cells = zl.toArray) (hx : ev F x = some (.int kl m)) (hy : ev F y = some (.int kc c)) (hk : zl.length = k) (hk0 : 0 < k)
    (hm : m ≤ c ∧ c ≤ 140737488355328 ∧ c * bytes ≤ 140737488355328) {a : Act} {w : World} (ha : Fr n D F a) :
    (execOp a.eval ⟨some d, .makeSlice t x y, ty, pos, af, none⟩).run P w = .ok (.value (.slice (some ⟨w.heap.size, 0, none⟩) m c)) (w.alloc (Ce ((List.replicate c zl).flatten) e)) := by
  obtain ⟨i, hi, hz, hik, hib⟩ := hE.h
  have hcells := rep_cells c k zl hk hk0
  have wl : IntKind.i64.wrap (m : Int) = m := by rw [IntKind.wrap_i64]; omega
  have wc : IntKind.i64.wrap (c : Int) = c := by rw [IntKind.wrap_i64]; omega
  have n1 : ¬ (c : Int) < 0 := by omega
  have n2 : ¬ (281474976710656 < (i.bytes : Int) * (c : Int)) := by
    rw [hib]
    have : (bytes : Int) * (c : Int) = ((c * bytes : Nat) : Int) := by rw [Nat.mul_comm]; simp
    omega
  have n3 : ¬ (m : Int) < 0 := by omega
  have n4 : ¬ c < m := by omega
  subst hik
  by_cases hn : c * i.size = 0
  · have hc0 : c = 0 := by rcases Nat.mul_eq_zero.1 hn with h | h <;> omega
    subst hc0
    have hm0 : m = 0 := by omega
    subst hm0
    simp [execOp, ha.eval hx, ha.eval hy, Instr.makeSlice, run_under (TU.h (P := P) (t := t)), asInt, asIntOf, typeInfo, hi, sizeOf, newRow, askRoom, roomBytes, IntKind.wrap_i64]
    have e0 : Array.map (fun (x : Nat) => (default : Value)) (Array.range 0) = #[] := by simp
    rw [e0]
  · simp only [hn, if_false] at hcells
    simp [execOp, ha.eval hx, ha.eval hy, Instr.makeSlice, run_under (TU.h (P := P) (t := t)), asInt, asIntOf, typeInfo, hi, sizeOf, zeroValue, hz, wl, wc, n1, n2, n3, n4, hn, newRow, askRoom, roomBytes, hzl]
    simp at hcells
    rw [hcells]
theorem o_makeSlice {t e : TypeId} {k bytes m c : Nat} {kl kc : IntKind} {z : Value} {zl : List Value} {x y : Operand} (hU : TU P t (.slice e)) (hE : TE P e k bytes z) (hzl : z.cells = zl.toArray) (hx : ev F x = some (.int kl m)) (hy : ev F y = some (.int kc c)) (hk : zl.length = k) (hk0 : 0 < k)
    (hm : m ≤ c ∧ c ≤ 140737488355328 ∧ c * bytes ≤ 140737488355328) (hd : Nat.ble (d + 1) n = true)
    (h : ∀ b, St n D w0 ((d, .slice (some ⟨b, 0, none⟩) m c) :: F) (⟨b, Ce ((List.replicate c zl).flatten) e, true⟩ :: L) (WL r P ops Q rest)) :
    St n D w0 F L (WL r P ops Q (⟨some d, .makeSlice t x y, ty, pos, af, none⟩ :: rest)) :=
  o_plain rfl rfl fun a w ha hw => by
    rw [run_makeSlice hU hE hzl hx hy hk hk0 hm ha]
    exact h _ _ _ (ha.put (Nat.le_of_ble_eq_true hd) _) (hw.alloc _)
end
end Go.Sx
