/- Appends inside regions that draw their order. No program in sight. -/
import Derived.Test.YteilhjglohahoaaSxG
namespace Go.Sx
open Go Go.RowKit
set_option linter.unusedVariables false
/-- Elements appended to a row of the call's own, whatever lies beside it. -/
theorem run_app_row {α : Type} {enc : α → List Value} {P : Program} {t e ty : TypeId} {k bytes : Nat} {z v vy : Value} {xs ys : List α} {H X0 : List Ent} {w0 w : World} (hU : TU P t (.slice e)) (hE : TE P e k bytes z) (hS : TS P e k) (hzk : z.cells.size = k) (henc : ∀ x, (enc x).length = k) (h1 : ∀ x, (enc x).all (·.oneCell') = true)
    (hv : OW e k enc v xs H) (hw : Rep w0 w (H ++ X0)) (hsv : SV w k enc vy ys) (hm : (xs.length + ys.length) * bytes ≤ 140737488355328 ∧ xs.length + ys.length ≤ 140737488355328) :
    ∃ u w' N R, (Builtin.append_ #[t, t] ty #[v, vy]).run P w = .ok u w' ∧ OW e k enc u (xs ++ ys) N ∧ (∀ x ∈ R, x.own = true) ∧ IdsIn H (N ++ R) ∧ ∀ X, Rep w0 w (H ++ X) → Rep w0 w' (N ++ (R ++ X)) := by
  obtain ⟨a1, cx, rfl, hcx, hcase⟩ := hsv
  have hfl := flat_len henc ys
  have hflx := flat_len henc xs
  by_cases hys : ys = []
  · subst hys
    obtain ⟨a0, cap, rfl, hcap⟩ : ∃ a0 cap, v = .slice a0 xs.length cap ∧ xs.length ≤ cap := by
      rcases hv.parts with ⟨rfl, rfl, rfl⟩ | ⟨b, cap, s, rfl, rfl, h2, h3⟩
      · exact ⟨none, 0, rfl, Nat.le_refl _⟩
      · exact ⟨_, cap, rfl, h3.1⟩
    have hrun := run_append_none (P := P) (ty := ty) (a0 := a0) (a1 := a1) (cx := cx) (w := w) hU hcap hS
    exact ⟨_, _, H, [], by simpa using hrun, by simpa using hv, by simp, fun x hx => ⟨x, by simpa using hx, rfl⟩, fun X hX => by simpa using hX⟩
  · have hpos : 0 < ys.length := List.length_pos_iff.2 hys
    rcases hcase with h0 | ⟨b, off, c, e', fz, rfl, hk, hp⟩
    · exact absurd h0 hys
    have hcells := Pat.cells henc hp
    have hnews : ∀ j u, (ys.flatMap enc)[j]? = some u → w.cell? ((⟨b, off, none⟩ : Addr).add j) = some u := fun j u hj => by rw [add_none]; simp [World.cell?, hk, hcells j u hj]
    obtain ⟨i, hi, hz, hik, hib⟩ := hE.h
    subst hik hib
    rcases hv.parts with ⟨rfl, rfl, rfl⟩ | ⟨b0, cap0, s0, rfl, rfl, h2, h3⟩
    · have hrun := run_append_nil (P := P) w t ty e i z hU.h hi hz ⟨b, off, none⟩ ys.length cx (ys.flatMap enc) hfl hnews hpos (by simp at hm; omega) (by simp at hm; omega)
      have hge := grownCap_ge w ys.length 0 e
      have hce : (ys.flatMap enc).toArray ++ Builtin.zeroCells z.cells (grownCap w ys.length 0 e - ys.length) = (ys.flatMap enc ++ (Builtin.zeroCells z.cells (grownCap w ys.length 0 e - ys.length)).toList).toArray := by
        apply Array.ext'; simp
      rw [hce] at hrun
      refine ⟨_, _, [⟨w.heap.size, Ce (ys.flatMap enc ++ (Builtin.zeroCells z.cells (grownCap w ys.length 0 e - ys.length)).toList) e, true⟩], [], hrun, ?_, by simp, fun x hx => (by cases hx), fun X hX => ?_⟩
      · exact OW.row (b := w.heap.size) (s := (Builtin.zeroCells z.cells (grownCap w ys.length 0 e - ys.length)).toList) (cap := grownCap w ys.length 0 e) (by
          simp only [List.length_append, hfl, Array.length_toList, size_zeroCells, hzk]
          rw [← Nat.add_mul]; congr 1; omega) (by simp at hm ⊢; omega)
      · have := hX.drew.alloc (Ce (ys.flatMap enc ++ (Builtin.zeroCells z.cells (grownCap w ys.length 0 e - ys.length)).toList) e)
        simpa using this
    · have hb0 : w.heap[b0]? = some (Ce (xs.flatMap enc ++ s0) e) := hw.ok _ List.mem_cons_self
      by_cases hroom : xs.length + ys.length ≤ cap0
      · have hsz : (xs.flatMap enc ++ s0).toArray.size = cap0 * i.size := by simpa using h2
        have hmul : (xs.length + ys.length) * i.size ≤ cap0 * i.size := Nat.mul_le_mul_right _ hroom
        have hfit : xs.length * i.size + (ys.flatMap enc).length ≤ (xs.flatMap enc ++ s0).toArray.size := by rw [hsz, hfl]; rw [Nat.add_mul] at hmul; exact hmul
        have hone : ∀ u ∈ ys.flatMap enc, u.oneCell' = true := fun u hu => by
          obtain ⟨q, _, hq⟩ := List.mem_flatMap.1 hu
          exact (List.all_eq_true.1 (h1 q)) u hq
        have hrun := run_append_room (P := P) w t ty e i hU.h hi b0 xs.length cap0 (xs.flatMap enc ++ s0).toArray hb0 ⟨b, off, none⟩ ys.length cx (ys.flatMap enc) hfl hnews hone hroom hfit
        have hcont : (xs.flatMap enc ++ s0).toArray.toList.take (xs.length * i.size) ++ ys.flatMap enc ++ (xs.flatMap enc ++ s0).toArray.toList.drop (xs.length * i.size + (ys.flatMap enc).length) = (xs ++ ys).flatMap enc ++ s0.drop (ys.flatMap enc).length := by
          simp only []
          rw [← hflx, List.take_left', List.drop_append, List.drop_of_length_le (by omega)]
          · simp
          · rfl
        rw [hcont] at hrun
        have hlen : xs.length + ys.length = (xs ++ ys).length := by simp
        rw [hlen] at hrun
        refine ⟨_, _, [⟨b0, Ce ((xs ++ ys).flatMap enc ++ s0.drop (ys.flatMap enc).length) e, true⟩], [], hrun, ?_, by simp, fun x hx => ?_, fun X hX => ?_⟩
        · refine OW.row (b := b0) (s := s0.drop (ys.flatMap enc).length) (cap := cap0) ?_ (by simp; omega)
          have hls : (xs.flatMap enc ++ s0).length = (xs.flatMap enc).length + s0.length := by simp
          rw [hls] at h2
          rw [Nat.add_mul] at hmul
          simp only [List.flatMap_append, List.length_append, List.length_drop]
          omega
        · simp at hx; subst hx
          exact ⟨_, List.mem_cons_self, rfl⟩
        · exact hX.turn .hd rfl rfl rfl (by simp) (setRow_heap w b0 _ _ e _ hb0) (fun k hk => setRow_other w b0 k _ hk)
      · have hrun := run_append_grow (P := P) w t ty e i z hU.h hi hz ⟨b0, 0, none⟩ xs.length cap0 (xs.flatMap enc) hflx
          (fun j u hj => by
            rw [add_none]
            have hlt := (List.getElem?_eq_some_iff.1 hj).1
            simp [World.cell?, hb0, List.getElem?_append_left hlt, hj]) ⟨b, off, none⟩ ys.length cx (ys.flatMap enc) hfl hnews (by omega) (by omega) (growslice_fits (by omega) hm.1)
        have hge := grownCap_ge w (xs.length + ys.length) cap0 e
        have hce : (xs.flatMap enc).toArray ++ (ys.flatMap enc).toArray ++ Builtin.zeroCells z.cells (grownCap w (xs.length + ys.length) cap0 e - (xs.length + ys.length)) = ((xs ++ ys).flatMap enc ++ (Builtin.zeroCells z.cells (grownCap w (xs.length + ys.length) cap0 e - (xs.length + ys.length))).toList).toArray := by
          apply Array.ext'; simp
        rw [hce] at hrun
        have hlen : xs.length + ys.length = (xs ++ ys).length := by simp
        refine ⟨_, _, [⟨w.heap.size, Ce ((xs ++ ys).flatMap enc ++ (Builtin.zeroCells z.cells (grownCap w (xs.length + ys.length) cap0 e - (xs.length + ys.length))).toList) e, true⟩], [⟨b0, Ce (xs.flatMap enc ++ s0) e, true⟩], hrun, ?_, by simp, fun x hx => ?_, fun X hX => ?_⟩
        · rw [hlen]
          refine OW.row (b := w.heap.size) (s := (Builtin.zeroCells z.cells (grownCap w (xs ++ ys).length cap0 e - (xs ++ ys).length)).toList) (cap := grownCap w (xs ++ ys).length cap0 e) ?_ ⟨by rw [← hlen]; exact hge, by rw [← hlen]; omega⟩
          simp only [List.flatMap_append, List.length_append, hflx, hfl, Array.length_toList, size_zeroCells, hzk]
          rw [← Nat.add_mul, ← Nat.add_mul]; congr 1; omega
        · simp at hx; subst hx
          exact ⟨⟨b0, Ce (xs.flatMap enc ++ s0) e, true⟩, by simp, rfl⟩
        · exact hX.drew.alloc _
/-- What an append makes: the new slice's row, and what has fallen out of use. -/
def appφ {α : Type} (e : TypeId) (k : Nat) (enc : α → List Value) (zs : List α) : Value → List Ent → Prop := fun u M => ∃ a cap N R, u = .slice a zs.length cap ∧ OW e k enc (.slice a zs.length cap) zs N ∧ M = N ++ R ∧ (∀ x ∈ N, x.own = true) ∧ ∀ x ∈ R, x.own = true
section
variable {P : Program} {n : Nat} {D : List Deferred} {w0 : World} {F : List (Nat × Value)} {L : List Ent} {J J1 : Made} {Φ : Specs} {X : Act → World → Prop} {kq : Nat} {ops : Array Oper}
variable {d : Tmp} {ty : TypeId} {pos : String} {af : Array Edge} {rest : List Oper}
theorem ents_mid (J : Made) (H L : List Ent) : (ents J (H ++ L)).Perm (H ++ ents J L) := by
  rw [ents_eq', ents_eq', ← List.append_assoc, ← List.append_assoc]
  exact List.Perm.append_right L List.perm_append_comm
/-- Elements appended to what was laid aside. -/
theorem q_appA {α : Type} {enc : α → List Value} {t e : TypeId} {k bytes : Nat} {z : Value} {x y : Operand} {v vy : Value} {xs ys : List α} {H : List Ent} (hU : TU P t (.slice e)) (hE : TE P e k bytes z) (hS : TS P e k) (hzk : z.cells.size = k) (henc : ∀ x, (enc x).length = k) (h1 : ∀ x, (enc x).all (·.oneCell') = true)
    (hx : ev F x = some v) (hy : ev F y = some vy) (hΦ : Φ kq = some (appφ e k enc (xs ++ ys))) (hrs : Φ.rv = some (kq, H)) (hJ : SubJ ((anc ops).getD kq 0) J1 J) (hd : Nat.ble (d + 1) n = true) (hv : OW e k enc v xs H) (hsv : ∀ w, Rep w0 w (ents J1 L) → SV w k enc vy ys)
    (hm : (xs.length + ys.length) * bytes ≤ 140737488355328 ∧ xs.length + ys.length ≤ 140737488355328)
    (h : ∀ a cap N R, OW e k enc (.slice a (xs ++ ys).length cap) (xs ++ ys) N → (∀ x ∈ N, x.own = true) → (∀ x ∈ R, x.own = true) → St n D w0 ((d, .slice a (xs ++ ys).length cap) :: F) L (WQ P ops w0 L Φ X (kq + 1) ((kq, N ++ R) :: J) rest)) :
    St n D w0 F L (WQ P ops w0 L Φ X kq J (⟨some d, .call ⟨.builtin .append, #[x, y], #[t, t]⟩, ty, pos, af, none⟩ :: rest)) := by
  intro a w ha hw N hN hinh
  refine g_app (H := H) (wanted_none rfl) rfl rfl rfl rfl hΦ (by unfold resv; rw [hrs]; simp [isAp]) (fun w' hw' => ?_) (fun u M hu hinh' => ?_)
  · have hr1 := (hN.lm.rst hJ).rep hw'
    have hr2 := (hN.lm.rst hJ).rep (hw'.unmask hv.own)
    obtain ⟨u, w2, N2, R2, g1, g2, g3, g4, g5⟩ := run_app_row (ty := ty) hU hE hS hzk henc h1 hv (hr1.perm (ents_mid J1 H L)) (hsv w' hr2) hm
    rw [run_app (ha.eval hx) (ha.eval hy) g1]
    obtain ⟨a2, cap2, rfl, _, _⟩ := g2.open
    refine ⟨N2 ++ R2, ⟨a2, cap2, N2, R2, rfl, g2, rfl, g2.own, g3⟩, g4, fun x hx => ?_, fun X hX => ?_⟩
    · rcases List.mem_append.1 hx with hx | hx
      · exact g2.own x hx
      · exact g3 x hx
    · rw [List.append_assoc]; exact g5 X hX
  · obtain ⟨a2, cap2, N2, R2, rfl, g2, rfl, g3, g4⟩ := hu
    exact h a2 cap2 N2 R2 g2 g3 g4 _ w (ha.put (Nat.le_of_ble_eq_true hd) _) hw _ (hN.add _) hinh'
end
end Go.Sx
