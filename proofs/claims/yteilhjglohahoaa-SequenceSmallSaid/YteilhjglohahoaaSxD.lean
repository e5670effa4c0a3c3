/- Slices as views of lists; appending in one rule. -/
import Derived.Test.YteilhjglohahoaaSxB
import Derived.Test.YteilhjglohahoaaSxC
import Derived.Test.YteilhjglohahoaaSxW
namespace Go.Sx
open Go Go.RowKit
set_option linter.unusedVariables false

/-! ## views -/
/-- The cells from off on are the elements' cells. -/
def Pat {α : Type} (c : Array Value) (off k : Nat) (enc : α → List Value) (xs : List α) : Prop := ∀ i x, xs[i]? = some x → ∀ j u, (enc x)[j]? = some u → c[off + i * k + j]? = some u
/-- v is a slice that shows xs in w. -/
def SV {α : Type} (w : World) (k : Nat) (enc : α → List Value) (v : Value) (xs : List α) : Prop :=
  ∃ a cap, v = .slice a xs.length cap ∧ (xs.length ≤ cap ∧ xs.length ≤ 9223372036854775807) ∧ (xs = [] ∨ ∃ b off c e fz, a = some ⟨b, off, none⟩ ∧ w.heap[b]? = some (.cells c e fz) ∧ Pat c off k enc xs)
section
variable {α : Type} {w w' w0 : World} {k : Nat} {enc : α → List Value} {v : Value} {xs : List α}
theorem SV.nil : SV w k enc (.slice none 0 0) ([] : List α) := ⟨none, 0, rfl, ⟨Nat.le_refl _, by simp⟩, .inl rfl⟩
theorem SV.keep {L : List Ent} (h : SV w0 k enc v xs) (hw : Rep w0 w L) (ho : AO L) : SV w k enc v xs := by
  obtain ⟨a, cap, h1, hc, h2⟩ := h
  refine ⟨a, cap, h1, hc, ?_⟩
  rcases h2 with h2 | ⟨b, off, c, e, fz, h2, h3, h4⟩
  · exact .inl h2
  · refine .inr ⟨b, off, c, e, fz, h2, ?_, h4⟩
    rw [(hw.below ho).block b (Array.getElem?_eq_some_iff.1 h3).1]; exact h3
theorem SV.below (h : SV w k enc v xs) (hb : Below w.heap.size w w') : SV w' k enc v xs := by
  obtain ⟨a, cap, h1, hc, h2⟩ := h
  refine ⟨a, cap, h1, hc, ?_⟩
  rcases h2 with h2 | ⟨b, off, c, e, fz, h2, h3, h4⟩
  · exact .inl h2
  · refine .inr ⟨b, off, c, e, fz, h2, ?_, h4⟩
    rw [hb.block b (Array.getElem?_eq_some_iff.1 h3).1]; exact h3
theorem SV.of_kn {b off cap : Nat} {c : Array Value} {e : TypeId} {fz : Nat × Nat} (hk : w.heap[b]? = some (.cells c e fz)) (hc : xs.length ≤ cap ∧ xs.length ≤ 9223372036854775807) (hp : Pat c off k enc xs) : SV w k enc (.slice (some ⟨b, off, none⟩) xs.length cap) xs :=
  ⟨_, _, rfl, hc, .inr ⟨b, off, c, e, fz, rfl, hk, hp⟩⟩
theorem Pat.flat (hk : ∀ x, (enc x).length = k) (xs : List α) (s : List Value) : Pat (xs.flatMap enc ++ s).toArray 0 k enc xs := fun i x hx j u hj => by
  have := flat_get hk xs s i x hx j u hj
  simpa using this
theorem Pat.get {c : Array Value} {off : Nat} (h : Pat c off k enc xs) {m : Nat} {x : α} (hx : xs[m]? = some x) : ∀ j u, (enc x)[j]? = some u → c[off + m * k + j]? = some u := h m x hx
theorem Pat.one {c : Array Value} {off : Nat} (h : Pat c off k enc xs) {m : Nat} {x : α} {u : Value} (hx : xs[m]? = some x) (hu : (enc x)[0]? = some u) : c[off + m * k]? = some u := by
  have := h m x hx 0 u hu; rwa [Nat.add_zero] at this
/-- The elements' cells, one after the other. -/
theorem Pat.cells {c : Array Value} {off : Nat} (hk : ∀ x, (enc x).length = k) (h : Pat c off k enc xs) : ∀ j u, (xs.flatMap enc)[j]? = some u → c[off + j]? = some u := by
  intro j u hj
  have hlt := (List.getElem?_eq_some_iff.1 hj).1
  rw [flat_len hk] at hlt
  have hk0 : 0 < k := by
    rcases Nat.eq_zero_or_pos k with h0 | h0
    · subst h0; omega
    · exact h0
  have hi : j / k < xs.length := (Nat.div_lt_iff_lt_mul hk0).2 hlt
  have hx : xs[j / k]? = some xs[j / k] := List.getElem?_eq_getElem hi
  have hm := Nat.mod_lt j hk0
  have hjk : j / k * k + j % k = j := by rw [Nat.mul_comm]; exact Nat.div_add_mod j k
  have hu : (enc xs[j / k])[j % k]? = some ((enc xs[j / k])[j % k]'(by rw [hk]; exact hm)) := List.getElem?_eq_getElem _
  have h1 := flat_get hk xs [] (j / k) _ hx (j % k) _ hu
  rw [List.append_nil, hjk, hj] at h1
  injection h1 with h1
  have h2 := h (j / k) _ hx (j % k) _ hu
  rw [Nat.add_assoc, hjk, ← h1] at h2
  exact h2
theorem SV.take {n : Nat} (h : SV w k enc v xs) : ∃ a cap, v = .slice a xs.length cap ∧ SV w k enc (.slice a (xs.take n).length cap) (xs.take n) := by
  obtain ⟨a, cap, h1, hc, h2⟩ := h
  refine ⟨a, cap, h1, a, cap, rfl, by simp; omega, ?_⟩
  rcases h2 with rfl | ⟨b, off, c, e, fz, h2, h3, h4⟩
  · exact .inl (by simp)
  · refine .inr ⟨b, off, c, e, fz, h2, h3, fun i x hx => h4 i x ?_⟩
    rw [List.getElem?_take] at hx
    split at hx
    · exact hx
    · cases hx
end

/-! ## a row of the call's own, as a list -/
/-- v shows xs, in a row of the call's own (or none). -/
inductive OW {α : Type} (E : TypeId) (k : Nat) (enc : α → List Value) : Value → List α → List Ent → Prop
  | nil : OW E k enc (.slice none 0 0) [] []
  | row {b cap : Nat} {xs : List α} {s : List Value} : (xs.flatMap enc ++ s).length = cap * k → (xs.length ≤ cap ∧ xs.length ≤ 9223372036854775807) → OW E k enc (.slice (some ⟨b, 0, none⟩) xs.length cap) xs [⟨b, Ce (xs.flatMap enc ++ s) E, true⟩]
section
variable {α : Type} {E : TypeId} {k : Nat} {enc : α → List Value} {v : Value} {xs : List α} {N : List Ent}
theorem OW.own (h : OW E k enc v xs N) : ∀ x ∈ N, x.own = true := by cases h <;> simp
theorem OW.parts (h : OW E k enc v xs N) : (v = .slice none 0 0 ∧ xs = [] ∧ N = []) ∨
    ∃ b cap s, v = .slice (some ⟨b, 0, none⟩) xs.length cap ∧ N = [⟨b, Ce (xs.flatMap enc ++ s) E, true⟩] ∧ (xs.flatMap enc ++ s).length = cap * k ∧ xs.length ≤ cap ∧ xs.length ≤ 9223372036854775807 := by
  cases h with
  | nil => exact .inl ⟨rfl, rfl, rfl⟩
  | row h1 h2 => exact .inr ⟨_, _, _, rfl, rfl, h1, h2⟩
/-- What a slice of the call's own is to read. -/
theorem OW.open (h : OW E k enc v xs N) : ∃ a cap, v = .slice a xs.length cap ∧ (xs.length ≤ cap ∧ xs.length ≤ 9223372036854775807) ∧ (0 < xs.length → ∃ b s, a = some ⟨b, 0, none⟩ ∧ N = [⟨b, Ce (xs.flatMap enc ++ s) E, true⟩] ∧ (xs.flatMap enc ++ s).length = cap * k) := by
  rcases h.parts with ⟨rfl, rfl, rfl⟩ | ⟨b, cap, s, rfl, rfl, h1, h2⟩
  · exact ⟨none, 0, rfl, ⟨Nat.le_refl _, by simp⟩, fun h => by simp at h⟩
  · exact ⟨_, cap, rfl, h2, fun _ => ⟨b, s, rfl, rfl, h1⟩⟩
theorem OW.sv (hk : ∀ x, (enc x).length = k) (h : OW E k enc v xs N) {w0 w : World} {L L0 : List Ent} (hr : RemL L N L0) (hw : Rep w0 w L) : SV w k enc v xs := by
  have hwp : Rep w0 w (N ++ L0) := hw.perm hr
  rcases h.parts with ⟨rfl, rfl, rfl⟩ | ⟨b, cap, s, rfl, rfl, h1, h2⟩
  · exact SV.nil
  · exact SV.of_kn (hwp.ok _ List.mem_cons_self) h2 (Pat.flat hk xs s)
end

/-- One cell for a number. -/
def encI (x : Int) : List Value := [.int .i64 x]
theorem encI_len : ∀ x, (encI x).length = 1 := fun _ => rfl
theorem encI_one : ∀ x, (encI x).all (·.oneCell') = true := fun _ => rfl
theorem SV.open {α : Type} {w : World} {k : Nat} {enc : α → List Value} {v : Value} {xs : List α} (h : SV w k enc v xs) : ∃ a cap, v = .slice a xs.length cap ∧ (xs.length ≤ cap ∧ xs.length ≤ 9223372036854775807) ∧
    (0 < xs.length → ∃ b off c e fz, a = some ⟨b, off, none⟩ ∧ w.heap[b]? = some (.cells c e fz) ∧ Pat c off k enc xs) := by
  obtain ⟨a, cap, h1, hc, h2⟩ := h
  refine ⟨a, cap, h1, hc, fun h0 => ?_⟩
  rcases h2 with rfl | h2
  · simp at h0
  · exact h2
theorem SV.at {α : Type} {w0 w : World} {k : Nat} {enc : α → List Value} {L : List Ent} {b cap : Nat} {e : TypeId} {xs : List α} {s : List Value} (henc : ∀ x, (enc x).length = k) (hw : Rep w0 w L) (h : At L b (Ce (xs.flatMap enc ++ s) e)) (hc : xs.length ≤ cap ∧ xs.length ≤ 9223372036854775807) : SV w k enc (.slice (some ⟨b, 0, none⟩) xs.length cap) xs :=
  SV.of_kn (hw.at h) hc (Pat.flat henc xs s)

theorem SV.atn {α : Type} {w0 w : World} {k n : Nat} {enc : α → List Value} {L : List Ent} {b cap : Nat} {e : TypeId} {s : List Value} (xs : List α) (henc : ∀ x, (enc x).length = k) (hw : Rep w0 w L) (h : At L b (Ce (xs.flatMap enc ++ s) e)) (hn : n = xs.length) (hc : n ≤ cap ∧ n ≤ 9223372036854775807) : SV w k enc (.slice (some ⟨b, 0, none⟩) n cap) xs := by
  subst hn
  exact SV.at henc hw h hc
/-- A row of the call's own that was written down element by element. -/
theorem SV.lit {α : Type} {w0 w : World} {k n : Nat} {enc : α → List Value} {L : List Ent} {b : Nat} {e : TypeId} {l : List Value} (xs : List α) (henc : ∀ x, (enc x).length = k) (hw : Rep w0 w L) (h : At L b (Ce l e)) (hl : l = xs.flatMap enc) (hn : n = xs.length) (hb : n ≤ 9223372036854775807) :
    SV w k enc (.slice (some ⟨b, 0, none⟩) n n) xs := by
  subst hl hn
  exact SV.at (s := []) henc hw (by rw [List.append_nil]; exact h) ⟨Nat.le_refl _, hb⟩

section
variable {r : Option Nat} {P : Program} {n : Nat} {D : List Deferred} {w0 : World} {F : List (Nat × Value)} {L L0 : List Ent} {Q : Exit → Act → World → Prop} {ops : Array Oper}
variable {d : Tmp} {ty : TypeId} {pos : String} {af : Array Edge} {rest : List Oper}

theorem run_append_none {t e : TypeId} {a0 a1 : Option Addr} {m c cx : Nat} {w : World} (hU : TU P t (.slice e)) (hm : m ≤ c) {k : Nat} (hS : TS P e k) :
    (Builtin.append_ #[t, t] ty #[.slice a0 m c, .slice a1 0 cx]).run P w = .ok (.slice a0 m c) w := by
  cases a1 with
  | none => cases a0 <;> simp [Builtin.append_, run_under (TU.h (P := P) (t := t)), TS.h (P := P) (t := e), Builtin.lenOf, Builtin.firstCells, hm, storeCells]
  | some p =>
    have h0 : (loadCells p 0).run P w = .ok #[] w := by simpa using run_loadCells_list (P := P) w p [] (by simp)
    cases a0 <;> simp [Builtin.append_, run_under (TU.h (P := P) (t := t)), TS.h (P := P) (t := e), Builtin.lenOf, Builtin.firstCells, hm, storeCells, h0]

/-- Elements appended to a slice of the call's own: the source may be any slice that shows ys. -/
theorem o_appG {α : Type} {enc : α → List Value} {t e : TypeId} {k bytes : Nat} {z : Value} {x y : Operand} {v vy : Value} {xs ys : List α} {N : List Ent} (hU : TU P t (.slice e)) (hE : TE P e k bytes z) (hS : TS P e k) (hzk : z.cells.size = k) (henc : ∀ x, (enc x).length = k) (h1 : ∀ x, (enc x).all (·.oneCell') = true)
    (hx : ev F x = some v) (hy : ev F y = some vy) (hd : Nat.ble (d + 1) n = true) (hv : OW e k enc v xs N) (hr : RemL L N L0) (hsv : ∀ w, Rep w0 w L → SV w k enc vy ys)
    (hm : (xs.length + ys.length) * bytes ≤ 140737488355328 ∧ xs.length + ys.length ≤ 140737488355328)
    (h : ∀ v' N', OW e k enc v' (xs ++ ys) N' → St n D w0 ((d, v') :: F) (N' ++ L0) (WL r P ops Q rest)) :
    St n D w0 F L (WL r P ops Q (⟨some d, .call ⟨.builtin .append, #[x, y], #[t, t]⟩, ty, pos, af, none⟩ :: rest)) := by
  intro a w ha hw
  have hwp : Rep w0 w (N ++ L0) := hw.perm hr
  obtain ⟨a1, cx, rfl, hcx, hcase⟩ := hsv w hw
  have hfl := flat_len henc ys
  have hflx := flat_len henc xs
  by_cases hys : ys = []
  · subst hys
    obtain ⟨a0, cap, rfl, hcap⟩ : ∃ a0 cap, v = .slice a0 xs.length cap ∧ xs.length ≤ cap := by
      rcases hv.parts with ⟨rfl, rfl, rfl⟩ | ⟨b, cap, s, rfl, rfl, h2, h3⟩
      · exact ⟨none, 0, rfl, Nat.le_refl _⟩
      · exact ⟨_, cap, rfl, h3.1⟩
    refine o_plain (F := F) (L := L) (w0 := w0) rfl rfl (fun a w ha hw => ?_) a w ha hw
    have hrun := run_append_none (P := P) (ty := ty) (a0 := a0) (a1 := a1) (cx := cx) (w := w) hU hcap hS
    rw [run_app (ha.eval hx) (ha.eval hy) (by simpa using hrun)]
    exact h _ N (by simpa using hv) _ _ (ha.put (Nat.le_of_ble_eq_true hd) _) (hw.perm hr)
  · have hpos : 0 < ys.length := List.length_pos_iff.2 hys
    rcases hcase with h0 | ⟨b, off, c, e', fz, rfl, hk, hp⟩
    · exact absurd h0 hys
    have hcells := Pat.cells henc hp
    rcases hv.parts with ⟨rfl, rfl, rfl⟩ | ⟨b0, cap0, s0, rfl, rfl, h2, h3⟩
    · -- into nothing
      refine o_plain (F := F) (L := L) (w0 := w0) (D := D) (n := n) (r := r) (Q := Q) (ops := ops) rfl rfl (fun a' w' ha' hw' => ?_) a w ha hw
      obtain ⟨i, hi, hz, hik, hib⟩ := hE.h
      subst hik hib
      obtain ⟨a1', cx', e1, hcx', hcase'⟩ := hsv w' hw'
      cases e1
      rcases hcase' with h0 | ⟨b', off', c', e'', fz', e2, hk2, hp2⟩
      · exact absurd h0 hys
      cases e2
      have hcells2 := Pat.cells henc hp2
      have hrun := run_append_nil (P := P) w' t ty e i z hU.h hi hz ⟨b, off, none⟩ ys.length cx (ys.flatMap enc) hfl (fun j u hj => by rw [add_none]; simp [World.cell?, hk2, hcells2 j u hj]) hpos (by simp at hm; omega) (by simp at hm; omega)
      rw [run_app (ha'.eval hx) (ha'.eval hy) hrun]
      have hge := grownCap_ge w' ys.length 0 e
      have hce : (ys.flatMap enc).toArray ++ Builtin.zeroCells z.cells (grownCap w' ys.length 0 e - ys.length) = (ys.flatMap enc ++ (Builtin.zeroCells z.cells (grownCap w' ys.length 0 e - ys.length)).toList).toArray := by
        apply Array.ext'; simp
      rw [hce]
      refine h _ _ (OW.row (b := w'.heap.size) (s := (Builtin.zeroCells z.cells (grownCap w' ys.length 0 e - ys.length)).toList) (cap := grownCap w' ys.length 0 e) ?_ (by simp at hm ⊢; omega)) _ _ (by simpa using ha'.put (Nat.le_of_ble_eq_true hd) _) ?_
      · simp only [List.nil_append, List.length_append, hfl, Array.length_toList, size_zeroCells, hzk]
        rw [← Nat.add_mul]; congr 1; omega
      · have hr' : RemL L [] L0 := hr
        have := (hw'.perm hr').drew.alloc (Ce (ys.flatMap enc ++ (Builtin.zeroCells z.cells (grownCap w' ys.length 0 e - ys.length)).toList) e)
        simpa using this
    · refine o_plain (F := F) (L := L) (w0 := w0) (D := D) (n := n) (r := r) (Q := Q) (ops := ops) rfl rfl (fun a' w' ha' hw' => ?_) a w ha hw
      obtain ⟨i, hi, hz, hik, hib⟩ := hE.h
      subst hik hib
      obtain ⟨a1', cx', e1, hcx', hcase'⟩ := hsv w' hw'
      cases e1
      rcases hcase' with h0 | ⟨b', off', c', e'', fz', e2, hk2, hp2⟩
      · exact absurd h0 hys
      cases e2
      have hcells2 := Pat.cells henc hp2
      have hnews : ∀ j u, (ys.flatMap enc)[j]? = some u → w'.cell? ((⟨b, off, none⟩ : Addr).add j) = some u := fun j u hj => by rw [add_none]; simp [World.cell?, hk2, hcells2 j u hj]
      have hwq : Rep w0 w' (⟨b0, Ce (xs.flatMap enc ++ s0) e, true⟩ :: L0) := hw'.perm hr
      have hb0 : w'.heap[b0]? = some (Ce (xs.flatMap enc ++ s0) e) := hwq.ok _ List.mem_cons_self
      by_cases hroom : xs.length + ys.length ≤ cap0
      · have hsz : (xs.flatMap enc ++ s0).toArray.size = cap0 * i.size := by simpa using h2
        have hmul : (xs.length + ys.length) * i.size ≤ cap0 * i.size := Nat.mul_le_mul_right _ hroom
        have hfit : xs.length * i.size + (ys.flatMap enc).length ≤ (xs.flatMap enc ++ s0).toArray.size := by rw [hsz, hfl]; rw [Nat.add_mul] at hmul; exact hmul
        have hone : ∀ u ∈ ys.flatMap enc, u.oneCell' = true := fun u hu => by
          obtain ⟨q, _, hq⟩ := List.mem_flatMap.1 hu
          exact (List.all_eq_true.1 (h1 q)) u hq
        have hrun := run_append_room (P := P) w' t ty e i hU.h hi b0 xs.length cap0 (xs.flatMap enc ++ s0).toArray hb0 ⟨b, off, none⟩ ys.length cx (ys.flatMap enc) hfl hnews hone hroom hfit
        rw [run_app (ha'.eval hx) (ha'.eval hy) hrun]
        have hcont : (xs.flatMap enc ++ s0).toArray.toList.take (xs.length * i.size) ++ ys.flatMap enc ++ (xs.flatMap enc ++ s0).toArray.toList.drop (xs.length * i.size + (ys.flatMap enc).length) = (xs ++ ys).flatMap enc ++ s0.drop (ys.flatMap enc).length := by
          simp only []
          rw [← hflx, List.take_left', List.drop_append, List.drop_of_length_le (by omega)]
          · simp
          · rfl
        rw [hcont]
        have hlen : xs.length + ys.length = (xs ++ ys).length := by simp
        rw [hlen]
        refine h _ _ (OW.row (b := b0) (s := s0.drop (ys.flatMap enc).length) (cap := cap0) ?_ (by simp; omega)) _ _ (ha'.put (Nat.le_of_ble_eq_true hd) _) (hwq.turn .hd rfl rfl rfl (by simp) (setRow_heap w' b0 _ _ e _ hb0) (fun k hk => setRow_other w' b0 k _ hk))
        have hls : (xs.flatMap enc ++ s0).length = (xs.flatMap enc).length + s0.length := by simp
        rw [hls] at h2
        rw [Nat.add_mul] at hmul
        simp only [List.flatMap_append, List.length_append, List.length_drop]
        omega
      · have hrun := run_append_grow (P := P) w' t ty e i z hU.h hi hz ⟨b0, 0, none⟩ xs.length cap0 (xs.flatMap enc) hflx
          (fun j u hj => by
            rw [add_none]
            have hlt := (List.getElem?_eq_some_iff.1 hj).1
            simp [World.cell?, hb0, List.getElem?_append_left hlt, hj]) ⟨b, off, none⟩ ys.length cx (ys.flatMap enc) hfl hnews (by omega) (by omega) (growslice_fits (by omega) hm.1)
        rw [run_app (ha'.eval hx) (ha'.eval hy) hrun]
        have hge := grownCap_ge w' (xs.length + ys.length) cap0 e
        have hce : (xs.flatMap enc).toArray ++ (ys.flatMap enc).toArray ++ Builtin.zeroCells z.cells (grownCap w' (xs.length + ys.length) cap0 e - (xs.length + ys.length)) = ((xs ++ ys).flatMap enc ++ (Builtin.zeroCells z.cells (grownCap w' (xs.length + ys.length) cap0 e - (xs.length + ys.length))).toList).toArray := by
          apply Array.ext'; simp
        rw [hce]
        have hdrop : Rep w0 w' L0 := hwq.sub (HSub.drop HSub.same)
        have hlen : xs.length + ys.length = (xs ++ ys).length := by simp
        refine h _ _ (OW.row (b := w'.heap.size) (s := (Builtin.zeroCells z.cells (grownCap w' (xs.length + ys.length) cap0 e - (xs.length + ys.length))).toList) (cap := grownCap w' (xs.length + ys.length) cap0 e) ?_ (by simp; omega)) _ _ (by rw [← hlen]; exact ha'.put (Nat.le_of_ble_eq_true hd) _) ?_
        · simp only [List.flatMap_append, List.length_append, hflx, hfl, Array.length_toList, size_zeroCells, hzk]
          rw [← Nat.add_mul, ← Nat.add_mul]; congr 1; omega
        · exact hdrop.drew.alloc _
/-- The same, the result written as a slice. -/
theorem o_appH {α : Type} {enc : α → List Value} {t e : TypeId} {k bytes : Nat} {z : Value} {x y : Operand} {v vy : Value} {xs ys : List α} {N : List Ent} (hU : TU P t (.slice e)) (hE : TE P e k bytes z) (hS : TS P e k) (hzk : z.cells.size = k) (henc : ∀ x, (enc x).length = k) (h1 : ∀ x, (enc x).all (·.oneCell') = true)
    (hx : ev F x = some v) (hy : ev F y = some vy) (hd : Nat.ble (d + 1) n = true) (hv : OW e k enc v xs N) (hr : RemL L N L0) (hsv : ∀ w, Rep w0 w L → SV w k enc vy ys)
    (hm : (xs.length + ys.length) * bytes ≤ 140737488355328 ∧ xs.length + ys.length ≤ 140737488355328)
    (h : ∀ a cap N', OW e k enc (.slice a (xs ++ ys).length cap) (xs ++ ys) N' → St n D w0 ((d, .slice a (xs ++ ys).length cap) :: F) (N' ++ L0) (WL r P ops Q rest)) :
    St n D w0 F L (WL r P ops Q (⟨some d, .call ⟨.builtin .append, #[x, y], #[t, t]⟩, ty, pos, af, none⟩ :: rest)) :=
  o_appG hU hE hS hzk henc h1 hx hy hd hv hr hsv hm (fun v' N' hO => by
    obtain ⟨a, cap, rfl, _, _⟩ := hO.open
    exact h a cap N' hO)
end
end Go.Sx
