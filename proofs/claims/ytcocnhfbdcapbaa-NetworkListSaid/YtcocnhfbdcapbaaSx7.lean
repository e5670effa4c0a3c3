/- Slices: made, cut, indexed, appended to. No program in sight. -/
import Derived.Test.YtcocnhfbdcapbaaSx6
set_option linter.unusedVariables false
namespace Go.Sx
open Go Go.RowKit

/-- What the table has of an element type: cells, bytes, the zero value. -/
class TE (P : Program) (e : TypeId) (k : outParam Nat) (bytes : outParam Nat) (z : outParam Value) : Prop where
  h : ∃ i : TypeInfo, P.info? e = some i ∧ i.zero = some z ∧ i.size = k ∧ i.bytes = bytes

section
variable {r : Option Nat} {P : Program} {n : Nat} {D : List Deferred} {w0 : World} {F : List (Nat × Value)} {L : List Ent} {Q : Exit → Act → World → Prop} {ops : Array Oper}
variable {d : Tmp} {ty : TypeId} {pos : String} {af : Array Edge} {rest : List Oper}

/-! ## reading cells of lists -/
theorem flat_get {α : Type} {enc : α → List Value} {k : Nat} (hk : ∀ x, (enc x).length = k) : ∀ (xs : List α) (s : List Value) (i : Nat) (x : α), xs[i]? = some x → ∀ j v, (enc x)[j]? = some v → (xs.flatMap enc ++ s)[i * k + j]? = some v
  | [], _, _, _, h => by simp at h
  | y :: ys, s, 0, x, h => by
    intro j v hj
    simp at h; subst h
    have hlt := (List.getElem?_eq_some_iff.1 hj).1
    simp only [List.flatMap_cons, List.append_assoc, Nat.zero_mul, Nat.zero_add]
    rw [List.getElem?_append_left hlt]; exact hj
  | y :: ys, s, i + 1, x, h => by
    intro j v hj
    have ih := flat_get hk ys s i x (by simpa using h) j v hj
    simp only [List.flatMap_cons, List.append_assoc]
    rw [List.getElem?_append_right (by rw [hk, Nat.add_mul]; omega)]
    rw [hk, show (i + 1) * k + j - k = i * k + j from by rw [Nat.add_mul]; omega]
    exact ih
theorem flat_len {α : Type} {enc : α → List Value} {k : Nat} (hk : ∀ x, (enc x).length = k) (xs : List α) : (xs.flatMap enc).length = xs.length * k := by
  induction xs with
  | nil => simp
  | cons x xs ih => simp only [List.flatMap_cons, List.length_append, hk, ih, List.length_cons, Nat.add_mul]; omega

/-- A load of one cell out of a row of known cells. -/
theorem o_loadC {t e : TypeId} {x : Operand} {b off : Nat} {c : Array Value} {fz : Nat × Nat} {v : Value} (hA : TA P t false) (hx : ev F x = some (.pointer (some ⟨b, off, none⟩))) (hk : Kn w0 L b (.cells c e fz)) (hv : c[off]? = some v)
    (hd : Nat.ble (d + 1) n = true) (h : St n D w0 ((d, v) :: F) L (WL r P ops Q rest)) : St n D w0 F L (WL r P ops Q (⟨some d, .load t x, ty, pos, af, none⟩ :: rest)) := o_load1 hx hk hv hd h
theorem o_loadM {t e : TypeId} {k : Nat} {x : Operand} {b off : Nat} {c : Array Value} {fz : Nat × Nat} {l : List Value} (hA : TA P t true) (hS : TS P t k) (hx : ev F x = some (.pointer (some ⟨b, off, none⟩))) (hk : Kn w0 L b (.cells c e fz))
    (hl : l.length = k) (hv : ∀ j v, l[j]? = some v → c[off + j]? = some v)
    (hd : Nat.ble (d + 1) n = true) (h : St n D w0 ((d, .agg l.toArray) :: F) L (WL r P ops Q rest)) : St n D w0 F L (WL r P ops Q (⟨some d, .load t x, ty, pos, af, none⟩ :: rest)) := o_loadN hx hk hl hv hd h

theorem o_loadCO {t e : TypeId} {x : Operand} {b off : Nat} {c : Array Value} {fz : Nat × Nat} {v : Value} (o' : Nat) (hA : TA P t false) (hx : ev F x = some (.pointer (some ⟨b, off, none⟩))) (he : off = o') (hk : Kn w0 L b (.cells c e fz)) (hv : c[o']? = some v)
    (hd : Nat.ble (d + 1) n = true) (h : St n D w0 ((d, v) :: F) L (WL r P ops Q rest)) : St n D w0 F L (WL r P ops Q (⟨some d, .load t x, ty, pos, af, none⟩ :: rest)) := o_load1 hx hk (by rw [he]; exact hv) hd h
theorem o_loadMO {t e : TypeId} {k : Nat} {x : Operand} {b off : Nat} {c : Array Value} {fz : Nat × Nat} {l : List Value} (o' : Nat) (hA : TA P t true) (hS : TS P t k) (hx : ev F x = some (.pointer (some ⟨b, off, none⟩))) (he : off = o') (hk : Kn w0 L b (.cells c e fz))
    (hl : l.length = k) (hv : ∀ j v, l[j]? = some v → c[o' + j]? = some v)
    (hd : Nat.ble (d + 1) n = true) (h : St n D w0 ((d, .agg l.toArray) :: F) L (WL r P ops Q rest)) : St n D w0 F L (WL r P ops Q (⟨some d, .load t x, ty, pos, af, none⟩ :: rest)) := o_loadN hx hk hl (by rw [he]; exact hv) hd h

/-! ## slices made -/
theorem rep_cells (m k : Nat) (zl : List Value) (hk : zl.length = k) (hk0 : 0 < k) :
    (Array.range (m * k)).map ((if m * k = 0 then #[] else zl.toArray)[· % (if m * k = 0 then #[] else zl.toArray).size]!) = ((List.replicate m zl).flatten).toArray := by
  by_cases h0 : m * k = 0
  · have hm0 : m = 0 := by rcases Nat.mul_eq_zero.1 h0 with h | h <;> omega
    subst hm0; simp
  · simp only [h0, if_false]
    apply Array.ext'
    simp only [Array.toList_map, Array.toList_range, List.size_toArray, hk]
    clear h0
    induction m with
    | zero => simp
    | succ m ih =>
      rw [List.replicate_succ', List.flatten_append, ← ih, Nat.add_mul, Nat.one_mul, List.range_add, List.map_append]
      congr 1
      simp only [List.map_map]
      apply List.ext_getElem
      · simp [hk]
      · intro i h1 h2
        simp at h1
        simp [Nat.mod_eq_of_lt, hk, h1, Nat.add_mod, Nat.mul_mod_left]
theorem run_buildSlice {t e : TypeId} {k m : Nat} {z : Value} {zl zs out : List Value} {xs : List (Nat × Operand)} {vs : List (Nat × Value)} (hU : TU P t (.slice e)) (hS : TS P e k) (hZ : TZ P e z zl) (hm : m * k ≤ 16777216) (hk : zl.length = k) (hk0 : 0 < k)
    (hzs : (List.replicate m zl).flatten = zs) (hxs : Parts F xs vs) (hf : Fill (fun i => some (i * k, k)) zs vs out) {a : Act} {w : World} (ha : Fr n D F a) :
    (execOp a.eval ⟨some d, .buildSlice t m xs.toArray, ty, pos, af, none⟩).run P w = .ok (.value (.slice (some ⟨w.heap.size, 0, none⟩) m m)) (w.alloc (Ce out e)) := by
  subst hzs
  have hxs' := hxs.map ha
  have e1 : xs.toArray.map (fun x => match x with | (i, x) => (i, a.eval x)) = vs.toArray := by rw [← hxs']; simp
  have hcells := rep_cells m k zl hk hk0
  have hfe := hf.eq
  have hm' : ¬ (m * k > 2 ^ 24) := by omega
  simp only [execOp, e1, Instr.buildSlice, Sem.run_bind, run_under (TU.h (P := P) (t := t)), Result.andThen_ok, TS.h (P := P) (t := e), if_neg hm', Sem.run_pure]
  by_cases h0 : m * k = 0
  · have hm0 : m = 0 := by rcases Nat.mul_eq_zero.1 h0 with h | h <;> omega
    subst hm0
    have hfe' : Instr.fill (fun i => some (i * k, k)) #[] vs = some out.toArray := by simpa using hfe
    have hr0 : (Array.map (fun _ => (default : Value)) (Array.range 0)) = #[] := by simp
    simp [hr0, hfe', newRow]
  · simp only [h0, if_false] at hcells ⊢
    simp only [Sem.run_bind, TZ.h (P := P) (t := e), TZ.hc (P := P) (t := e), Result.andThen_ok, Sem.run_pure, hcells, hfe]
    simp [newRow]

theorem o_buildSlice {t e : TypeId} {k m : Nat} {z : Value} {zl zs out : List Value} {xs : List (Nat × Operand)} {vs : List (Nat × Value)} (hU : TU P t (.slice e)) (hS : TS P e k) (hZ : TZ P e z zl) (hm : m * k ≤ 16777216) (hk : zl.length = k) (hk0 : 0 < k)
    (hzs : (List.replicate m zl).flatten = zs) (hxs : Parts F xs vs) (hf : Fill (fun i => some (i * k, k)) zs vs out) (hd : Nat.ble (d + 1) n = true)
    (h : ∀ b, St n D w0 ((d, .slice (some ⟨b, 0, none⟩) m m) :: F) (⟨b, Ce out e, true⟩ :: L) (WL r P ops Q rest)) :
    St n D w0 F L (WL r P ops Q (⟨some d, .buildSlice t m xs.toArray, ty, pos, af, none⟩ :: rest)) :=
  o_plain rfl rfl fun a w ha hw => by
    rw [run_buildSlice hU hS hZ hm hk hk0 hzs hxs hf ha]
    exact h _ _ _ (ha.put (Nat.le_of_ble_eq_true hd) _) (hw.alloc _)

/-! ## append -/
/-- A slice of the call's own: nil, or at the head of a row of its own. -/
inductive OwnS (E : TypeId) (k : Nat) : Value → List Value → List Ent → Prop
  | nil : OwnS E k (.slice none 0 0) [] []
  | row {b m cap : Nat} {xs slack : List Value} : xs.length = m * k → (xs ++ slack).length = cap * k → m ≤ cap → OwnS E k (.slice (some ⟨b, 0, none⟩) m cap) xs [⟨b, Ce (xs ++ slack) E, true⟩]

theorem OwnS.parts {E : TypeId} {k : Nat} {v : Value} {xs : List Value} {N : List Ent} (h : OwnS E k v xs N) : (v = .slice none 0 0 ∧ xs = [] ∧ N = []) ∨
    ∃ b m cap slack, v = .slice (some ⟨b, 0, none⟩) m cap ∧ N = [⟨b, Ce (xs ++ slack) E, true⟩] ∧ xs.length = m * k ∧ (xs ++ slack).length = cap * k ∧ m ≤ cap := by
  cases h with
  | nil => exact .inl ⟨rfl, rfl, rfl⟩
  | row h1 h2 h3 => exact .inr ⟨_, _, _, _, rfl, rfl, h1, h2, h3⟩
theorem OwnS.own {E : TypeId} {k : Nat} {v : Value} {xs : List Value} {N : List Ent} (h : OwnS E k v xs N) : ∀ x ∈ N, x.own = true := by
  cases h <;> simp
theorem run_app {x y : Operand} {t : TypeId} {a : Act} {w w' : World} {u v res : Value} {g : Option (Nat × Bool)} (hx : a.eval x = u) (hy : a.eval y = v)
    (h : (Builtin.append_ #[t, t] ty #[u, v]).run P w = .ok res w') :
    (execOp a.eval ⟨some d, .call ⟨.builtin .append, #[x, y], #[t, t]⟩, ty, pos, af, g⟩).run P w = .ok (.value res) w' := by
  simp [execOp, resolve, invoke, builtin, hx, hy, h]

theorem o_append_nil {t e : TypeId} {k bytes : Nat} {z : Value} {x y : Operand} {bx ox m cx : Nat} {c : Array Value} {e' : TypeId} {fz : Nat × Nat} {ys : List Value} (hU : TU P t (.slice e)) (hE : TE P e k bytes z) (hzk : z.cells.size = k)
    (hx : ev F x = some (.slice none 0 0)) (hy : ev F y = some (.slice (some ⟨bx, ox, none⟩) m cx)) (hd : Nat.ble (d + 1) n = true) (hk : Kn w0 L bx (.cells c e' fz)) (hlen : ys.length = m * k) (hys : ∀ j u, ys[j]? = some u → c[ox + j]? = some u)
    (hm : 0 < m ∧ m * bytes ≤ 140737488355328 ∧ m ≤ 140737488355328)
    (h : ∀ b cap slack, m ≤ cap → (ys ++ slack).length = cap * k → St n D w0 ((d, .slice (some ⟨b, 0, none⟩) m cap) :: F) (⟨b, Ce (ys ++ slack) e, true⟩ :: L) (WL r P ops Q rest)) :
    St n D w0 F L (WL r P ops Q (⟨some d, .call ⟨.builtin .append, #[x, y], #[t, t]⟩, ty, pos, af, none⟩ :: rest)) :=
  o_plain rfl rfl fun a w ha hw => by
    obtain ⟨i, hi, hz, hik, hib⟩ := hE.h
    subst hik hib
    have hrun := run_append_nil (P := P) w t ty e i z hU.h hi hz ⟨bx, ox, none⟩ m cx ys hlen (fun j u hj => by rw [add_none]; simp [World.cell?, hk w hw, hys j u hj]) hm.1 (by omega) (by omega)
    rw [run_app (ha.eval hx) (ha.eval hy) hrun]
    have hge := grownCap_ge w m 0 e
    have hcells : ys.toArray ++ Builtin.zeroCells z.cells (grownCap w m 0 e - m) = (ys ++ (Builtin.zeroCells z.cells (grownCap w m 0 e - m)).toList).toArray := by
      apply Array.ext'; simp
    rw [hcells]
    refine h w.heap.size _ _ hge ?_ _ _ (ha.put (Nat.le_of_ble_eq_true hd) _) (hw.drew.alloc _)
    simp only [List.length_append, hlen, Array.length_toList, size_zeroCells, hzk]
    rw [← Nat.add_mul]; congr 1; omega

theorem o_append_row {t e : TypeId} {k bytes : Nat} {z : Value} {x y : Operand} {b0 m0 cap0 : Nat} {xs slack0 : List Value} {L0 : List Ent} {bx ox m cx : Nat} {c : Array Value} {e' : TypeId} {fz : Nat × Nat} {ys : List Value} (hU : TU P t (.slice e)) (hE : TE P e k bytes z) (hzk : z.cells.size = k)
    (hx : ev F x = some (.slice (some ⟨b0, 0, none⟩) m0 cap0)) (hy : ev F y = some (.slice (some ⟨bx, ox, none⟩) m cx)) (hd : Nat.ble (d + 1) n = true)
    (hrem : Rem L ⟨b0, Ce (xs ++ slack0) e, true⟩ L0) (hxl : xs.length = m0 * k) (hcl : (xs ++ slack0).length = cap0 * k)
    (hk : Kn w0 L bx (.cells c e' fz)) (hlen : ys.length = m * k) (hys : ∀ j u, ys[j]? = some u → c[ox + j]? = some u) (h1 : ys.all (·.oneCell') = true)
    (hm : (m0 + m) * bytes ≤ 140737488355328 ∧ m0 + m ≤ 140737488355328)
    (h : ∀ b cap slack, m0 + m ≤ cap → (xs ++ ys ++ slack).length = cap * k → St n D w0 ((d, .slice (some ⟨b, 0, none⟩) (m0 + m) cap) :: F) (⟨b, Ce (xs ++ ys ++ slack) e, true⟩ :: L0) (WL r P ops Q rest)) :
    St n D w0 F L (WL r P ops Q (⟨some d, .call ⟨.builtin .append, #[x, y], #[t, t]⟩, ty, pos, af, none⟩ :: rest)) :=
  o_plain rfl rfl fun a w ha hw => by
    obtain ⟨i, hi, hz, hik, hib⟩ := hE.h
    subst hik hib
    have hwp : Rep w0 w (⟨b0, Ce (xs ++ slack0) e, true⟩ :: L0) := hw.perm hrem.perm
    have hb0 : w.heap[b0]? = some (Ce (xs ++ slack0) e) := hwp.ok _ List.mem_cons_self
    have hnews : ∀ j u, ys[j]? = some u → w.cell? ((⟨bx, ox, none⟩ : Addr).add j) = some u := fun j u hj => by rw [add_none]; simp [World.cell?, hk w hw, hys j u hj]
    by_cases hroom : m0 + m ≤ cap0
    · have hsz : (xs ++ slack0).toArray.size = cap0 * i.size := by simpa using hcl
      have hmul : (m0 + m) * i.size ≤ cap0 * i.size := Nat.mul_le_mul_right _ hroom
      have hfit : m0 * i.size + ys.length ≤ (xs ++ slack0).toArray.size := by rw [hsz, hlen]; rw [Nat.add_mul] at hmul; exact hmul
      have hrun := run_append_room (P := P) w t ty e i hU.h hi b0 m0 cap0 (xs ++ slack0).toArray hb0 ⟨bx, ox, none⟩ m cx ys hlen hnews (by simpa using h1) hroom hfit
      rw [run_app (ha.eval hx) (ha.eval hy) hrun]
      have hcont : (xs ++ slack0).toArray.toList.take (m0 * i.size) ++ ys ++ (xs ++ slack0).toArray.toList.drop (m0 * i.size + ys.length) = xs ++ ys ++ slack0.drop ys.length := by
        simp only []
        rw [← hxl, List.take_left', List.drop_append, List.drop_of_length_le (by omega)]
        · simp
        · rfl
      rw [hcont]
      refine h b0 cap0 (slack0.drop ys.length) hroom ?_ _ _ (ha.put (Nat.le_of_ble_eq_true hd) _) (hwp.turn .hd rfl rfl rfl (by simp) (setRow_heap w b0 _ _ e _ hb0) (fun k hk => setRow_other w b0 k _ hk))
      have : (xs ++ slack0).length = xs.length + slack0.length := by simp
      have hs2 : m0 * i.size + ys.length ≤ cap0 * i.size := by rw [hlen]; rw [Nat.add_mul] at hmul; exact hmul
      simp only [List.length_append, List.length_drop]
      rw [this] at hcl
      omega
    · have hrun := run_append_grow (P := P) w t ty e i z hU.h hi hz ⟨b0, 0, none⟩ m0 cap0 xs hxl
        (fun j u hj => by
          rw [add_none]
          have hlt := (List.getElem?_eq_some_iff.1 hj).1
          simp [World.cell?, hb0, List.getElem?_append_left hlt, hj]) ⟨bx, ox, none⟩ m cx ys hlen hnews (by omega) (by omega) (growslice_fits (by omega) hm.1)
      rw [run_app (ha.eval hx) (ha.eval hy) hrun]
      have hge := grownCap_ge w (m0 + m) cap0 e
      have hcells : xs.toArray ++ ys.toArray ++ Builtin.zeroCells z.cells (grownCap w (m0 + m) cap0 e - (m0 + m)) = (xs ++ ys ++ (Builtin.zeroCells z.cells (grownCap w (m0 + m) cap0 e - (m0 + m))).toList).toArray := by
        apply Array.ext'; simp
      rw [hcells]
      have hdrop : Rep w0 w L0 := by
        refine ⟨hwp.os, hwp.tape, hwp.output, hwp.size, fun x hx => hwp.ok x (List.mem_cons_of_mem _ hx), fun x hx => hwp.own x (List.mem_cons_of_mem _ hx), ?_, fun b hb hx => hwp.frame b hb fun x hxL => ?_⟩
        · have := hwp.nd; simp only [List.map_cons, List.nodup_cons] at this; exact this.2
        · rcases List.mem_cons.1 hxL with rfl | hxL
          · intro e; have := hwp.own _ List.mem_cons_self rfl; simp only at this e; omega
          · exact hx x hxL
      refine h w.heap.size _ _ hge ?_ _ _ (ha.put (Nat.le_of_ble_eq_true hd) _) (hdrop.drew.alloc _)
      simp only [List.length_append, hxl, hlen, Array.length_toList, size_zeroCells, hzk]
      rw [← Nat.add_mul, ← Nat.add_mul]; congr 1; omega
/-- The source: a row of the call's own, known whole. -/
theorem o_appN {t e : TypeId} {k bytes : Nat} {z : Value} {x y : Operand} {bx m cx : Nat} {e' : TypeId} {ys : List Value} (hU : TU P t (.slice e)) (hE : TE P e k bytes z) (hzk : z.cells.size = k)
    (hx : ev F x = some (.slice none 0 0)) (hy : ev F y = some (.slice (some ⟨bx, 0, none⟩) m cx)) (hd : Nat.ble (d + 1) n = true) (hat : At L bx (Ce ys e')) (hlen : ys.length = m * k)
    (hm : 0 < m ∧ m * bytes ≤ 140737488355328 ∧ m ≤ 140737488355328)
    (h : ∀ b cap slack, m ≤ cap → (ys ++ slack).length = cap * k → St n D w0 ((d, .slice (some ⟨b, 0, none⟩) m cap) :: F) (⟨b, Ce (ys ++ slack) e, true⟩ :: L) (WL r P ops Q rest)) :
    St n D w0 F L (WL r P ops Q (⟨some d, .call ⟨.builtin .append, #[x, y], #[t, t]⟩, ty, pos, af, none⟩ :: rest)) :=
  o_append_nil hU hE hzk hx hy hd (Kn.at hat) hlen (fun j u hj => by simpa using hj) hm h
theorem o_appR {t e : TypeId} {k bytes : Nat} {z : Value} {x y : Operand} {b0 m0 cap0 : Nat} {xs slack0 : List Value} {L0 : List Ent} {bx m cx : Nat} {e' : TypeId} {ys : List Value} (hU : TU P t (.slice e)) (hE : TE P e k bytes z) (hzk : z.cells.size = k)
    (hx : ev F x = some (.slice (some ⟨b0, 0, none⟩) m0 cap0)) (hy : ev F y = some (.slice (some ⟨bx, 0, none⟩) m cx)) (hd : Nat.ble (d + 1) n = true)
    (hat0 : At L b0 (Ce (xs ++ slack0) e)) (hrem : Rem L ⟨b0, Ce (xs ++ slack0) e, true⟩ L0) (hxl : xs.length = m0 * k) (hcl : (xs ++ slack0).length = cap0 * k)
    (hat : At L bx (Ce ys e')) (hlen : ys.length = m * k) (h1 : ys.all (·.oneCell') = true)
    (hm : (m0 + m) * bytes ≤ 140737488355328 ∧ m0 + m ≤ 140737488355328)
    (h : ∀ b cap slack, m0 + m ≤ cap → (xs ++ ys ++ slack).length = cap * k → St n D w0 ((d, .slice (some ⟨b, 0, none⟩) (m0 + m) cap) :: F) (⟨b, Ce (xs ++ ys ++ slack) e, true⟩ :: L0) (WL r P ops Q rest)) :
    St n D w0 F L (WL r P ops Q (⟨some d, .call ⟨.builtin .append, #[x, y], #[t, t]⟩, ty, pos, af, none⟩ :: rest)) :=
  o_append_row hU hE hzk hx hy hd hrem hxl hcl (Kn.at hat) hlen (fun j u hj => by simpa using hj) h1 hm h
end
end Go.Sx
