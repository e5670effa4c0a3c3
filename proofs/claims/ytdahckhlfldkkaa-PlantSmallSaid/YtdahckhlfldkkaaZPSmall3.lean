/- A part of the proofs of this seat: a small logic of walks, plain laws, and what some of the program's functions compute, shown by walks through their code. Conditions: the hypotheses that each theorem names. -/
import Derived.Test.YtdahckhlfldkkaaZPSmall2
import Derived.Lib.AppendZeros
import Derived.WideKeyRuns
import Derived.Test.YtdahckhlfldkkaaRows
import Derived.WalkKit
set_option linter.unusedSimpArgs false
set_option linter.unusedVariables false
set_option linter.unusedSectionVars false
namespace Go.Sx
open Go Go.RowKit
theorem yf8 {α : Type} {enc : α → List Value} {P : Program} {t e ty : TypeId} {k bytes : Nat} {z v vy : Value} {xs ys : List α} {H X0 : List Ent} {w0 w : World} (hU : TU P t (.slice e)) (hE : TE P e k bytes z) (hS : TS P e k) (hzk : z.cells.size = k) (henc : ∀ x, (enc x).length = k) (h1 : ∀ x, (enc x).all (·.oneCell') = true)
    (hv : OW e k enc v xs H) (hw : Rep w0 w (H ++ X0)) (hsv : SV w k enc vy ys) (hm : (xs.length + ys.length) * bytes ≤ 140737488355328 ∧ xs.length + ys.length ≤ 140737488355328) :
    ∃ u w' N R, (Builtin.append_ #[t, t] ty #[v, vy]).run P w = .ok u w' ∧ OW e k enc u (xs ++ ys) N ∧ (∀ x ∈ R, x.own = true) ∧ zU7 H (N ++ R) ∧ ∀ X, Rep w0 w (H ++ X) → Rep w0 w' (N ++ (R ++ X)) := by
  obtain ⟨a1, cx, rfl, hcx, hcase⟩ := hsv
  have hfl := zq5 henc ys
  have hflx := zq5 henc xs
  by_cases hys : ys = []
  · subst hys
    obtain ⟨a0, cap, rfl, hcap⟩ : ∃ a0 cap, v = .slice a0 xs.length cap ∧ xs.length ≤ cap := by
      rcases hv.parts with ⟨rfl, rfl, rfl⟩ | ⟨b, cap, s, rfl, rfl, h2, h3⟩
      · exact ⟨none, 0, rfl, Nat.le_refl _⟩
      · exact ⟨_, cap, rfl, h3.1⟩
    have hrun := zA6 (P := P) (ty := ty) (a0 := a0) (a1 := a1) (cx := cx) (w := w) hU hcap hS
    exact ⟨_, _, H, [], by simpa using hrun, by simpa using hv, by simp, fun x hx => ⟨x, by simpa using hx, rfl⟩, fun X hX => by simpa using hX⟩
  · have hpos : 0 < ys.length := List.length_pos_iff.2 hys
    rcases hcase with h0 | ⟨b, off, c, e', fz, rfl, hk, hp⟩
    · exact absurd h0 hys
    have hcells := Pat.cells henc hp
    have hnews : ∀ j u, (ys.flatMap enc)[j]? = some u → w.cell? ((⟨b, off, none⟩ : Addr).add j) = some u := fun j u hj => by rw [zh8]; simp [World.cell?, hk, hcells j u hj]
    obtain ⟨i, hi, hz, hik, hib⟩ := hE.h
    subst hik hib
    rcases hv.parts with ⟨rfl, rfl, rfl⟩ | ⟨b0, cap0, s0, rfl, rfl, h2, h3⟩
    · have hrun := run_append_nil (P := P) w t ty e i z hU.h hi hz ⟨b, off, none⟩ ys.length cx (ys.flatMap enc) hfl hnews hpos (by simp at hm; omega) (by simp at hm; omega)
      have hge := grownCap_ge w ys.length 0 e
      have hce : (ys.flatMap enc).toArray ++ Builtin.zeroCells z.cells (grownCap w ys.length 0 e - ys.length) = (ys.flatMap enc ++ (Builtin.zeroCells z.cells (grownCap w ys.length 0 e - ys.length)).toList).toArray := by
        apply Array.ext'; simp
      rw [hce] at hrun
      refine ⟨_, _, [⟨w.heap.size, Ce (ys.flatMap enc ++ (Builtin.zeroCells z.cells (grownCap w ys.length 0 e - ys.length)).toList) e, true⟩], [], hrun, ?_, by simp, fun x hx => (by cases hx), fun X hX => ?_⟩
      · exact OW.row (b := w.heap.size) (s := (Builtin.zeroCells z.cells (grownCap w ys.length 0 e - ys.length)).toList) (cap := grownCap w ys.length 0 e) (by
          simp only [List.length_append, hfl, Array.length_toList, size_zeroCells, hzk]
          rw [← Nat.add_mul]; congr 1; omega) (by simp at hm ⊢; omega)
      · have := hX.drew.alloc (Ce (ys.flatMap enc ++ (Builtin.zeroCells z.cells (grownCap w ys.length 0 e - ys.length)).toList) e)
        simpa using this
    · have hb0 : w.heap[b0]? = some (Ce (xs.flatMap enc ++ s0) e) := hw.ok _ List.mem_cons_self
      by_cases hroom : xs.length + ys.length ≤ cap0
      · have hsz : (xs.flatMap enc ++ s0).toArray.size = cap0 * i.size := by simpa using h2
        have hmul : (xs.length + ys.length) * i.size ≤ cap0 * i.size := Nat.mul_le_mul_right _ hroom
        have hfit : xs.length * i.size + (ys.flatMap enc).length ≤ (xs.flatMap enc ++ s0).toArray.size := by rw [hsz, hfl]; rw [Nat.add_mul] at hmul; exact hmul
        have hone : ∀ u ∈ ys.flatMap enc, u.oneCell' = true := fun u hu => by
          obtain ⟨q, _, hq⟩ := List.mem_flatMap.1 hu
          exact (List.all_eq_true.1 (h1 q)) u hq
        have hrun := run_append_room (P := P) w t ty e i hU.h hi b0 xs.length cap0 (xs.flatMap enc ++ s0).toArray hb0 ⟨b, off, none⟩ ys.length cx (ys.flatMap enc) hfl hnews hone hroom hfit
        have hcont : (xs.flatMap enc ++ s0).toArray.toList.take (xs.length * i.size) ++ ys.flatMap enc ++ (xs.flatMap enc ++ s0).toArray.toList.drop (xs.length * i.size + (ys.flatMap enc).length) = (xs ++ ys).flatMap enc ++ s0.drop (ys.flatMap enc).length := by
          simp only []
          rw [← hflx, List.take_left', List.drop_append, List.drop_of_length_le (by omega)]
          · simp
          · rfl
        rw [hcont] at hrun
        have hlen : xs.length + ys.length = (xs ++ ys).length := by simp
        rw [hlen] at hrun
        refine ⟨_, _, [⟨b0, Ce ((xs ++ ys).flatMap enc ++ s0.drop (ys.flatMap enc).length) e, true⟩], [], hrun, ?_, by simp, fun x hx => ?_, fun X hX => ?_⟩
        · refine OW.row (b := b0) (s := s0.drop (ys.flatMap enc).length) (cap := cap0) ?_ (by simp; omega)
          have hls : (xs.flatMap enc ++ s0).length = (xs.flatMap enc).length + s0.length := by simp
          rw [hls] at h2
          rw [Nat.add_mul] at hmul
          simp only [List.flatMap_append, List.length_append, List.length_drop]
          omega
        · simp at hx; subst hx
          exact ⟨_, List.mem_cons_self, rfl⟩
        · exact hX.turn .hd rfl rfl rfl (by simp) (setRow_heap w b0 _ _ e _ hb0) (fun k hk => setRow_other w b0 k _ hk)
      · have hrun := run_append_grow (P := P) w t ty e i z hU.h hi hz ⟨b0, 0, none⟩ xs.length cap0 (xs.flatMap enc) hflx
          (fun j u hj => by
            rw [zh8]
            have hlt := (List.getElem?_eq_some_iff.1 hj).1
            simp [World.cell?, hb0, List.getElem?_append_left hlt, hj]) ⟨b, off, none⟩ ys.length cx (ys.flatMap enc) hfl hnews (by omega) (by omega) (growslice_fits (by omega) hm.1)
        have hge := grownCap_ge w (xs.length + ys.length) cap0 e
        have hce : (xs.flatMap enc).toArray ++ (ys.flatMap enc).toArray ++ Builtin.zeroCells z.cells (grownCap w (xs.length + ys.length) cap0 e - (xs.length + ys.length)) = ((xs ++ ys).flatMap enc ++ (Builtin.zeroCells z.cells (grownCap w (xs.length + ys.length) cap0 e - (xs.length + ys.length))).toList).toArray := by
          apply Array.ext'; simp
        rw [hce] at hrun
        have hlen : xs.length + ys.length = (xs ++ ys).length := by simp
        refine ⟨_, _, [⟨w.heap.size, Ce ((xs ++ ys).flatMap enc ++ (Builtin.zeroCells z.cells (grownCap w (xs.length + ys.length) cap0 e - (xs.length + ys.length))).toList) e, true⟩], [⟨b0, Ce (xs.flatMap enc ++ s0) e, true⟩], hrun, ?_, by simp, fun x hx => ?_, fun X hX => ?_⟩
        · rw [hlen]
          refine OW.row (b := w.heap.size) (s := (Builtin.zeroCells z.cells (grownCap w (xs ++ ys).length cap0 e - (xs ++ ys).length)).toList) (cap := grownCap w (xs ++ ys).length cap0 e) ?_ ⟨by rw [← hlen]; exact hge, by rw [← hlen]; omega⟩
          simp only [List.flatMap_append, List.length_append, hflx, hfl, Array.length_toList, size_zeroCells, hzk]
          rw [← Nat.add_mul, ← Nat.add_mul]; congr 1; omega
        · simp at hx; subst hx
          exact ⟨⟨b0, Ce (xs.flatMap enc ++ s0) e, true⟩, by simp, rfl⟩
        · exact hX.drew.alloc _
def yH8 {α : Type} (e : TypeId) (k : Nat) (enc : α → List Value) (zs : List α) : Value → List Ent → Prop := fun u M => ∃ a cap N R, u = .slice a zs.length cap ∧ OW e k enc (.slice a zs.length cap) zs N ∧ M = N ++ R ∧ (∀ x ∈ N, x.own = true) ∧ ∀ x ∈ R, x.own = true
section
variable {P : Program} {n : Nat} {D : List Deferred} {w0 : World} {F : List (Nat × Value)} {L : List Ent} {J J1 : Made} {Φ : zf2} {X : Act → World → Prop} {kq : Nat} {ops : Array Oper}
variable {d : Tmp} {ty : TypeId} {pos : String} {af : Array Edge} {rest : List Oper}
theorem yu7 (J : Made) (H L : List Ent) : (za9 J (H ++ L)).Perm (H ++ za9 J L) := by
  rw [zH1, zH1, ← List.append_assoc, ← List.append_assoc]
  exact List.Perm.append_right L List.perm_append_comm
theorem yy2 {α : Type} {enc : α → List Value} {t e : TypeId} {k bytes : Nat} {z : Value} {x y : Operand} {v vy : Value} {xs ys : List α} {H : List Ent} (hU : TU P t (.slice e)) (hE : TE P e k bytes z) (hS : TS P e k) (hzk : z.cells.size = k) (henc : ∀ x, (enc x).length = k) (h1 : ∀ x, (enc x).all (·.oneCell') = true)
    (hx : ev F x = some v) (hy : ev F y = some vy) (hΦ : Φ kq = some (yH8 e k enc (xs ++ ys))) (hrs : Φ.rv = some (kq, H)) (hJ : SubJ ((anc ops).getD kq 0) J1 J) (hd : Nat.ble (d + 1) n = true) (hv : OW e k enc v xs H) (hsv : ∀ w, Rep w0 w (za9 J1 L) → SV w k enc vy ys)
    (hm : (xs.length + ys.length) * bytes ≤ 140737488355328 ∧ xs.length + ys.length ≤ 140737488355328)
    (h : ∀ a cap N R, OW e k enc (.slice a (xs ++ ys).length cap) (xs ++ ys) N → (∀ x ∈ N, x.own = true) → (∀ x ∈ R, x.own = true) → St n D w0 ((d, .slice a (xs ++ ys).length cap) :: F) L (WQ P ops w0 L Φ X (kq + 1) ((kq, N ++ R) :: J) rest)) :
    St n D w0 F L (WQ P ops w0 L Φ X kq J (⟨some d, .call ⟨.builtin .append, #[x, y], #[t, t]⟩, ty, pos, af, none⟩ :: rest)) := by
  intro a w ha hw N hN hinh
  refine yK3 (H := H) (zg6 rfl) rfl rfl rfl rfl hΦ (by unfold zN5; rw [hrs]; simp [zQ4]) (fun w' hw' => ?_) (fun u M hu hinh' => ?_)
  · have hr1 := (hN.lm.rst hJ).rep hw'
    have hr2 := (hN.lm.rst hJ).rep (hw'.unmask hv.own)
    obtain ⟨u, w2, N2, R2, g1, g2, g3, g4, g5⟩ := yf8 (ty := ty) hU hE hS hzk henc h1 hv (hr1.perm (yu7 J1 H L)) (hsv w' hr2) hm
    rw [zI5 (ha.eval hx) (ha.eval hy) g1]
    obtain ⟨a2, cap2, rfl, _, _⟩ := g2.open
    refine ⟨N2 ++ R2, ⟨a2, cap2, N2, R2, rfl, g2, rfl, g2.own, g3⟩, g4, fun x hx => ?_, fun X hX => ?_⟩
    · rcases List.mem_append.1 hx with hx | hx
      · exact g2.own x hx
      · exact g3 x hx
    · rw [List.append_assoc]; exact g5 X hX
  · obtain ⟨a2, cap2, N2, R2, rfl, g2, rfl, g3, g4⟩ := hu
    exact h a2 cap2 N2 R2 g2 g3 g4 _ w (ha.put (Nat.le_of_ble_eq_true hd) _) hw _ (hN.add _) hinh'
end
end Go.Sx
namespace Go.Sx
open Go Go.RowKit
section
variable {r : Option Nat} {P : Program} {n : Nat} {D : List Deferred} {w0 : World} {F : List (Nat × Value)} {L : List Ent} {Q : Exit → Act → World → Prop}
def zc7 {σ : Type} (n : Nat) (Ds : σ → List Deferred) (w0 : World) (Fs : σ → List (Nat × Value)) (Ls : σ → List Ent) (I : σ → Prop) (μ : σ → Nat) (s : σ) : Act → World → Prop :=
  fun a w => ∃ s', I s' ∧ μ s' < μ s ∧ Fr n (Ds s') (Fs s') a ∧ Rep w0 w (Ls s')
def ze3 {σ : Type} (n : Nat) (Ds : σ → List Deferred) (w0 : World) (Fs : σ → List (Nat × Value)) (Ls : σ → List Ent) (I : σ → Prop) : Act → World → Prop :=
  fun a w => ∃ s, I s ∧ Fr n (Ds s) (Fs s) a ∧ Rep w0 w (Ls s)
theorem zP0 {x : Code} {σ : Type} (Ds : σ → List Deferred) (Fs : σ → List (Nat × Value)) (Ls : σ → List Ent) (I : σ → Prop)
    (h1 : St n D w0 F L (WC r P x (Exit.then (ze3 n Ds w0 Fs Ls I) Q))) (h2 : ∀ s, I s → St n (Ds s) w0 (Fs s) (Ls s) (Q .normal)) : St n D w0 F L (WC r P x Q) := by
  refine h1.imp fun a w h => wpIn_mono h ?_
  intro e a' w' hq
  cases e with
  | normal => obtain ⟨s, hI, ha, hw⟩ := hq; exact h2 s hI a' w' ha hw
  | _ => exact hq
theorem zq2 {σ : Type} {Ds : σ → List Deferred} {Fs : σ → List (Nat × Value)} {Ls : σ → List Ent} {I : σ → Prop} (s : σ) (hI : I s) (hD : D = Ds s) (hF : FSub (Fs s) F) (hL : HSub (Ls s) L) :
    St n D w0 F L (ze3 n Ds w0 Fs Ls I) :=
  fun _ _ ha hw => ⟨s, hI, hD ▸ ha.sub hF, hw.sub hL⟩
def MB (bds : List Nat) : List Ent := bds.map fun b => ⟨b, .deferred (some []), true⟩
def MBn (bds : List Nat) : List Ent := bds.map fun b => ⟨b, .deferred none, true⟩
theorem RemL.cons {e : Ent} {M M1 M' N : List Ent} (h1 : Rem M e M1) (h2 : RemL M1 N M') : RemL M (e :: N) M' := h1.perm.trans (List.Perm.cons e h2)
variable {ops : Array Oper} {d : Tmp} {ty : TypeId} {pos : String} {af : Array Edge} {rest : List Oper}
end
end Go.Sx
namespace Go.Sx
open Go Go.RowKit
section
variable {K V : Type} [DecidableEq K]
def asF (k : K) : List (K × V) → Option V
  | [] => none
  | p :: r => if p.1 = k then some p.2 else asF k r
def ze8 (k : K) (v : V) : List (K × V) → List (K × V)
  | [] => [(k, v)]
  | p :: r => if p.1 = k then (k, v) :: r else p :: ze8 k v r
theorem zj1 {k : K} : ∀ {l : List (K × V)}, asF k l = none ↔ ∀ p ∈ l, p.1 ≠ k
  | [] => by simp [asF]
  | p :: r => by
    rw [asF]
    by_cases h : p.1 = k
    · simp [h]
    · simp [h, zj1 (l := r)]
theorem zm4 {k : K} {v : V} : ∀ {l : List (K × V)}, asF k l = some v → ∃ j : Nat, l[j]? = some (k, v)
  | p :: r, h => by
    rw [asF] at h
    by_cases e : p.1 = k
    · rw [if_pos e] at h; cases h; subst e; exact ⟨0, rfl⟩
    · rw [if_neg e] at h
      obtain ⟨j, hj⟩ := zm4 h
      exact ⟨j + 1, by simpa using hj⟩
theorem zG6 {k : K} {v : V} {l : List (K × V)} (h : asF k l = some v) : (k, v) ∈ l := by
  obtain ⟨j, hj⟩ := zm4 h
  exact List.mem_of_getElem? hj
theorem zA7 {k : K} {v : V} : ∀ {l : List (K × V)} {j : Nat}, (l.map Prod.fst).Nodup → l[j]? = some (k, v) → asF k l = some v
  | [], _, _, h => by simp at h
  | p :: r, 0, _, h => by simp at h; subst h; simp [asF]
  | p :: r, j + 1, hn, h => by
    rw [List.map_cons, List.nodup_cons] at hn
    have h' : r[j]? = some (k, v) := by simpa using h
    have hne : p.1 ≠ k := fun e => hn.1 (List.mem_map.2 ⟨(k, v), List.mem_of_getElem? h', e.symm⟩)
    rw [asF, if_neg hne]
    exact zA7 hn.2 h'
theorem zl4 {k : K} {v : V} : ∀ {l : List (K × V)}, asF k l = none → ze8 k v l = l ++ [(k, v)]
  | [], _ => rfl
  | p :: r, h => by
    rw [asF] at h
    by_cases e : p.1 = k
    · rw [if_pos e] at h; cases h
    · rw [if_neg e] at h
      rw [ze8, if_neg e, zl4 h]; rfl
theorem zI3 {k : K} {u v : V} : ∀ {l : List (K × V)} {j : Nat}, (l.map Prod.fst).Nodup → l[j]? = some (k, u) → ze8 k v l = l.set j (k, v)
  | [], _, _, h => by simp at h
  | p :: r, 0, _, h => by simp at h; subst h; simp [ze8]
  | p :: r, j + 1, hn, h => by
    rw [List.map_cons, List.nodup_cons] at hn
    have h' : r[j]? = some (k, u) := by simpa using h
    have hne : p.1 ≠ k := fun e => hn.1 (List.mem_map.2 ⟨(k, u), List.mem_of_getElem? h', e.symm⟩)
    rw [ze8, if_neg hne, zI3 hn.2 h']; rfl
theorem zj9 (k x : K) (v : V) : ∀ l : List (K × V), asF x (ze8 k v l) = if k = x then some v else asF x l
  | [] => by simp [ze8, asF]
  | p :: r => by
    rw [ze8]
    by_cases e : p.1 = k
    · rw [if_pos e, asF, asF]
      by_cases ex : k = x
      · simp [ex]
      · simp [ex, show p.1 ≠ x from e ▸ ex]
    · rw [if_neg e, asF, asF, zj9 k x v r]
      by_cases ex : p.1 = x
      · have : k ≠ x := fun h => e (ex.trans h.symm)
        simp [ex, this]
      · simp [ex]
theorem zK8 {k : K} {v : V} : ∀ {l : List (K × V)} {x : K}, x ∈ (ze8 k v l).map Prod.fst ↔ x = k ∨ x ∈ l.map Prod.fst
  | [], x => by simp [ze8]
  | p :: r, x => by
    rw [ze8]
    by_cases e : p.1 = k
    · rw [if_pos e]; simp [e]
    · rw [if_neg e, List.map_cons, List.mem_cons, zK8, List.map_cons, List.mem_cons]
      constructor
      · rintro (h | h | h)
        · exact .inr (.inl h)
        · exact .inl h
        · exact .inr (.inr h)
      · rintro (h | h | h)
        · exact .inr (.inl h)
        · exact .inl h
        · exact .inr (.inr h)
theorem zg8 {k : K} {v : V} : ∀ {l : List (K × V)}, (l.map Prod.fst).Nodup → ((ze8 k v l).map Prod.fst).Nodup
  | [], _ => by simp [ze8]
  | p :: r, h => by
    rw [List.map_cons, List.nodup_cons] at h
    rw [ze8]
    by_cases e : p.1 = k
    · rw [if_pos e, List.map_cons, List.nodup_cons]
      exact ⟨e ▸ h.1, h.2⟩
    · rw [if_neg e, List.map_cons, List.nodup_cons]
      refine ⟨fun hx => ?_, zg8 h.2⟩
      rcases zK8.1 hx with hx | hx
      · exact e hx
      · exact h.1 hx
end
def MM {K V : Type} (κ : K → Value) (ν : V → Value) (l : List (K × V)) : List (Value × Value) := l.map fun p => (κ p.1, ν p.2)
class KL (P : Program) (kt : TypeId) {K : Type} (κ : K → Value) : Prop where
  inj : ∀ a b, κ a = κ b → a = b
  check : ∀ (e : Bool) (w : World) (a : K), (Instr.checkKey e 10000 kt (κ a)).run P w = .ok () w
  find : ∀ (w : World) (a : K) (es : List MapEntry), (∀ e ∈ es, ∃ b, e.key = κ b) →
    ((Instr.findKey kt (κ a) es).run P w = .ok none w ∧ ∀ e ∈ es, e.key ≠ κ a) ∨ ∃ j e, (Instr.findKey kt (κ a) es).run P w = .ok (some (j, e.val)) w ∧ es[j]? = some e ∧ e.key = κ a
  stays : ∀ (w : World) (a : K), (Instr.keyThatStays (κ a) (κ a)).run P w = .ok (κ a) w
def kI (x : Int) : Value := .int .i64 x
def vB (x : Bool) : Value := .bool x
instance {P : Program} {kt : TypeId} [hV : TU P kt (.int .i64)] : KL P kt kI where
  inj := fun a b h => by cases h; rfl
  check := fun e w a => MapKept.run_checkKey (k := kI a) hV.h (show MapKept.IsKey (.int .i64) (.int .i64 a) from rfl) e 9999
  find := fun w a es hall => by
    rcases MapKept.findNow_spec (d := .int .i64) (k := kI a) (show MapKept.IsKey (.int .i64) (.int .i64 a) from rfl) es 0 (fun x hx => by obtain ⟨b, hb⟩ := hall x hx; rw [hb]; exact (rfl : IntKind.i64 = IntKind.i64)) with ⟨h1, h2⟩ | ⟨j, e, h1, h2, h3⟩
    · exact .inl ⟨MapKept.run_findKey hV.h h1, h2⟩
    · exact .inr ⟨j, e, by rw [Nat.zero_add] at h1; exact MapKept.run_findKey hV.h h1, h2, h3⟩
  stays := fun w a => MapKept.run_keyThatStays (d := .int .i64) (k := kI a) (show MapKept.IsKey (.int .i64) (.int .i64 a) from rfl)
theorem KL.out {P : Program} {kt : TypeId} {K V : Type} [DecidableEq K] {κ : K → Value} (h : KL P kt κ) {ν : V → Value} {l : List (K × V)} {k : K} (hk : asF k l = none) (w : World) : (Instr.findKey kt (κ k) (zk4 0 (MM κ ν l))).run P w = .ok none w := by
  rcases h.find w k (zk4 0 (MM κ ν l)) (fun e he => by
    obtain ⟨p, _, hp⟩ := List.mem_map.1 (zx5 he)
    exact ⟨p.1, (congrArg Prod.fst hp).symm⟩) with ⟨h1, _⟩ | ⟨j, e, _, h2, h3⟩
  · exact h1
  · obtain ⟨p, hp, e1⟩ := List.mem_map.1 (zx5 (List.mem_of_getElem? h2))
    exact absurd (h.inj _ _ ((congrArg Prod.fst e1).trans h3)) (zj1.1 hk p hp)
theorem KL.at {P : Program} {kt : TypeId} {K V : Type} [DecidableEq K] {κ : K → Value} (h : KL P kt κ) {ν : V → Value} {l : List (K × V)} {k : K} {v : V} (hn : (l.map Prod.fst).Nodup) {j : Nat} (hj : l[j]? = some (k, v)) (w : World) :
    (Instr.findKey kt (κ k) (zk4 0 (MM κ ν l))).run P w = .ok (some (j, ν v)) w := by
  have hget : (zk4 0 (MM κ ν l))[j]? = some ⟨κ k, ν v, 0 + j⟩ := by rw [zo5, MM, List.getElem?_map, hj]; rfl
  rcases h.find w k (zk4 0 (MM κ ν l)) (fun e he => by
    obtain ⟨p, _, hp⟩ := List.mem_map.1 (zx5 he)
    exact ⟨p.1, (congrArg Prod.fst hp).symm⟩) with ⟨_, h2⟩ | ⟨i, e, h1, h2, h3⟩
  · exact absurd rfl (h2 _ (List.mem_of_getElem? hget))
  · rw [h1]
    have h2' := h2
    rw [zo5, MM, List.getElem?_map] at h2
    cases hl : l[i]? with
    | none => rw [hl] at h2; cases h2
    | some p =>
      rw [hl] at h2
      simp only [Option.map_some, Option.some.injEq] at h2
      have hp : p.1 = k := h.inj _ _ (by rw [← h3, ← h2])
      have hij : i = j := by
        have hi := List.getElem?_eq_some_iff.1 hl
        have hj' := List.getElem?_eq_some_iff.1 hj
        have q1 : (l.map Prod.fst)[i]'(by simpa using hi.1) = k := by simp [hi.2, hp]
        have q2 : (l.map Prod.fst)[j]'(by simpa using hj'.1) = k := by simp [hj'.2]
        have hpw := List.pairwise_iff_getElem.1 hn
        rcases Nat.lt_trichotomy i j with hlt | heq | hgt
        · exact absurd (q1.trans q2.symm) (hpw i j (by simpa using hi.1) (by simpa using hj'.1) hlt)
        · exact heq
        · exact absurd (q2.trans q1.symm) (hpw j i (by simpa using hj'.1) (by simpa using hi.1) hgt)
      subst hij
      rw [hl] at hj; cases hj
      rw [← h2]
theorem zD6 {K V : Type} {κ : K → Value} {ν : V → Value} {l : List (K × V)} {k : K} {v : V} {j : Nat} (hj : l[j]? = some (k, v)) : (zk4 0 (MM κ ν l))[j]? = some ⟨κ k, ν v, j⟩ := by
  rw [zo5, MM, List.getElem?_map, hj, Nat.zero_add]; rfl
theorem zW3 {K V : Type} {κ : K → Value} {ν : V → Value} {l : List (K × V)} {k : K} {u v : V} {j : Nat} (hj : l[j]? = some (k, u)) :
    MO (MM κ ν (l.set j (k, v))) = .map ((zk4 0 (MM κ ν l)).toArray.modify j fun e => { e with key := κ k, val := ν v }) (MM κ ν l).length := by
  have hlt := (List.getElem?_eq_some_iff.1 hj).1
  have e1 : MM κ ν (l.set j (k, v)) = (MM κ ν l).set j (κ k, ν v) := by simp [MM, List.map_set]
  have hm : (MM κ ν l)[j]? = some (κ k, ν u) := by rw [MM, List.getElem?_map, hj]; rfl
  rw [e1]
  simp only [MO, List.length_set]
  congr 1
  apply Array.ext'
  simp only [Array.toList_modify]
  apply List.ext_getElem?
  intro i
  rw [zo5, List.getElem?_modify, zo5, List.getElem?_set]
  have hlt' : j < (MM κ ν l).length := (List.getElem?_eq_some_iff.1 hm).1
  by_cases e : j = i
  · subst e
    simp [hlt', hm]
  · simp [e]
theorem zQ6 {K V : Type} {κ : K → Value} {ν : V → Value} {l : List (K × V)} {k : K} {v : V} : MO (MM κ ν (l ++ [(k, v)])) = .map ((zk4 0 (MM κ ν l)).toArray.push ⟨κ k, ν v, (MM κ ν l).length⟩) ((MM κ ν l).length + 1) := by
  simp [MO, MM, zQ7, zk4]
section
variable {r : Option Nat} {P : Program} {n : Nat} {D : List Deferred} {w0 : World} {F : List (Nat × Value)} {L L' : List Ent} {Q : Exit → Act → World → Prop} {ops : Array Oper}
variable {d : Tmp} {ty : TypeId} {pos : String} {af : Array Edge} {rest : List Oper} {K V : Type} [DecidableEq K]
theorem zv1 {κ : K → Value} {ν : V → Value} {t kt e : TypeId} {x y : Operand} {b : Nat} {z : Value} {zl : List Value} {l : List (K × V)} {k : K} (hU : TU P t (.map kt e)) (hK : KL P kt κ) (hZ : TZ P e z zl) (hx : ev F x = some (.map (some b))) (hy : ev F y = some (κ k))
    (hk : Kn w0 L b (MO (MM κ ν l))) (ho : asF k l = none) (hd : Nat.ble (d + 1) n = true)
    (h : St n D w0 ((d, z) :: F) L (WL r P ops Q rest)) : St n D w0 F L (WL r P ops Q (⟨some d, .lookup t x y false, ty, pos, af, none⟩ :: rest)) :=
  zf3 rfl hd (fun a w ha hw => by
    have hb := hk w hw
    have h1 := MapKept.run_getObj_map (P := P) hb
    simp [execOp, Instr.lookup, ha.eval hx, ha.eval hy, zb2 (TU.h (P := P) (t := t)), h1, hK.check, hK.out ho w, TZ.h (P := P) (t := e)]) h
theorem zt6 {κ : K → Value} {ν : V → Value} {t kt e : TypeId} {x y : Operand} {b : Nat} {l : List (K × V)} {k : K} {v : V} (hU : TU P t (.map kt e)) (hK : KL P kt κ) (hx : ev F x = some (.map (some b))) (hy : ev F y = some (κ k))
    (hk : Kn w0 L b (MO (MM κ ν l))) (hn : (l.map Prod.fst).Nodup) (ho : asF k l = some v) (hd : Nat.ble (d + 1) n = true)
    (h : St n D w0 ((d, ν v) :: F) L (WL r P ops Q rest)) : St n D w0 F L (WL r P ops Q (⟨some d, .lookup t x y false, ty, pos, af, none⟩ :: rest)) :=
  zf3 rfl hd (fun a w ha hw => by
    have hb := hk w hw
    have h1 := MapKept.run_getObj_map (P := P) hb
    obtain ⟨j, hj⟩ := zm4 ho
    simp [execOp, Instr.lookup, ha.eval hx, ha.eval hy, zb2 (TU.h (P := P) (t := t)), h1, hK.check, hK.at hn hj w]) h
theorem zs1 {κ : K → Value} {ν : V → Value} {t kt e : TypeId} {x y : Operand} {b : Nat} {z : Value} {zl : List Value} {l : List (K × V)} {k : K} (hU : TU P t (.map kt e)) (hK : KL P kt κ) (hZ : TZ P e z zl) (hx : ev F x = some (.map (some b))) (hy : ev F y = some (κ k))
    (hk : Kn w0 L b (MO (MM κ ν l))) (ho : asF k l = none) (hd : Nat.ble (d + 1) n = true)
    (h : St n D w0 ((d, .tuple #[z, .bool false]) :: F) L (WL r P ops Q rest)) : St n D w0 F L (WL r P ops Q (⟨some d, .lookup t x y true, ty, pos, af, none⟩ :: rest)) :=
  zf3 rfl hd (fun a w ha hw => by
    have hb := hk w hw
    have h1 := MapKept.run_getObj_map (P := P) hb
    simp [execOp, Instr.lookup, ha.eval hx, ha.eval hy, zb2 (TU.h (P := P) (t := t)), h1, hK.check, hK.out ho w, TZ.h (P := P) (t := e)]) h
theorem zr0 {κ : K → Value} {ν : V → Value} {t kt e : TypeId} {x y : Operand} {b : Nat} {l : List (K × V)} {k : K} {v : V} (hU : TU P t (.map kt e)) (hK : KL P kt κ) (hx : ev F x = some (.map (some b))) (hy : ev F y = some (κ k))
    (hk : Kn w0 L b (MO (MM κ ν l))) (hn : (l.map Prod.fst).Nodup) (ho : asF k l = some v) (hd : Nat.ble (d + 1) n = true)
    (h : St n D w0 ((d, .tuple #[ν v, .bool true]) :: F) L (WL r P ops Q rest)) : St n D w0 F L (WL r P ops Q (⟨some d, .lookup t x y true, ty, pos, af, none⟩ :: rest)) :=
  zf3 rfl hd (fun a w ha hw => by
    have hb := hk w hw
    have h1 := MapKept.run_getObj_map (P := P) hb
    obtain ⟨j, hj⟩ := zm4 ho
    simp [execOp, Instr.lookup, ha.eval hx, ha.eval hy, zb2 (TU.h (P := P) (t := t)), h1, hK.check, hK.at hn hj w]) h
theorem zm6 {κ : K → Value} {ν : V → Value} {t kt e : TypeId} {x y z : Operand} {b : Nat} {l : List (K × V)} {k : K} {v : V} (hU : TU P t (.map kt e)) (hK : KL P kt κ) (hx : ev F x = some (.map (some b))) (hy : ev F y = some (κ k)) (hz : ev F z = some (ν v))
    (hat : At L b (MO (MM κ ν l))) (hn : (l.map Prod.fst).Nodup) (hu : Upd L b (MO (MM κ ν l)) (MO (MM κ ν (ze8 k v l))) L')
    (h : St n D w0 F L' (WL r P ops Q rest)) : St n D w0 F L (WL r P ops Q (⟨none, .mapUpdate t x y z, ty, pos, af, none⟩ :: rest)) :=
  zi0 rfl rfl fun a w ha hw => by
    have hb := hw.at hu.at
    have h1 := MapKept.run_getObj_map (P := P) hb
    have hr : (execOp a.eval ⟨none, .mapUpdate t x y z, ty, pos, af, none⟩).run P w = .ok .skip { w with heap := w.heap.setIfInBounds b (MO (MM κ ν (ze8 k v l))) } := by
      cases ho : asF k l with
      | none =>
        rw [zl4 ho, zQ6]
        simp [execOp, Instr.mapUpdate, ha.eval hx, ha.eval hy, ha.eval hz, zb2 (TU.h (P := P) (t := t)), h1, hK.check, hK.out ho w, MapKept.run_setObj_map _ hb]
      | some u =>
        obtain ⟨j, hj⟩ := zm4 ho
        rw [zI3 hn hj, zW3 hj]
        simp [execOp, Instr.mapUpdate, ha.eval hx, ha.eval hy, ha.eval hz, zb2 (TU.h (P := P) (t := t)), h1, hK.check, hK.at hn hj w, MapKept.run_setObj_map _ hb, zD6 hj, hK.stays]
    rw [hr]
    obtain ⟨g1, g2⟩ := MapKept.heap_set (o' := MO (MM κ ν (ze8 k v l))) hb
    exact h _ _ (ha.put_none _) (hw.turn hu rfl rfl rfl (by simp) g1 g2)
theorem zQ9 {κ : K → Value} {ν : V → Value} {t kt e : TypeId} {x y : Operand} {b : Nat} {l : List (K × V)} {k : K} {v : V} (j : Nat) (hU : TU P t (.map kt e)) (hK : KL P kt κ) (hx : ev F x = some (.map (some b))) (hy : ev F y = some (κ k))
    (hat : At L b (MO (MM κ ν l))) (hn : (l.map Prod.fst).Nodup) (hj : l[j]? = some (k, v)) (hu : Upd L b (MO (MM κ ν l)) (MO (MM κ ν l)) L') (hd : Nat.ble (d + 1) n = true)
    (h : St n D w0 ((d, .tuple #[ν v, .int .i64 j]) :: F) L' (WL r P ops Q rest)) : St n D w0 F L (WL r P ops Q (⟨some d, .mapEntry t x y, ty, pos, af, none⟩ :: rest)) :=
  zi0 rfl rfl fun a w ha hw => by
    have hb := hw.at hu.at
    have h1 := MapKept.run_getObj_map (P := P) hb
    have hset : ((zk4 0 (MM κ ν l)).modify j fun e => { e with key := κ k }) = zk4 0 (MM κ ν l) := by
      apply List.ext_getElem?
      intro i
      rw [List.getElem?_modify]
      by_cases e : j = i
      · subst e
        have hg : (zk4 0 (MM κ ν l))[j]? = some ⟨κ k, ν v, j⟩ := zD6 hj
        simp [hg]
      · simp [e]
    have hr : (execOp a.eval ⟨some d, .mapEntry t x y, ty, pos, af, none⟩).run P w = .ok (.value (.tuple #[ν v, .int .i64 j])) { w with heap := w.heap.setIfInBounds b (MO (MM κ ν l)) } := by
      simp [execOp, Instr.mapEntry, ha.eval hx, ha.eval hy, zb2 (TU.h (P := P) (t := t)), h1, hK.check, hK.at hn hj w, MapKept.run_setObj_map _ hb, zD6 (κ := κ) (ν := ν) hj, hK.stays, hset, goInt, MO]
    rw [hr]
    obtain ⟨g1, g2⟩ := MapKept.heap_set (o' := MO (MM κ ν l)) hb
    exact h _ _ (ha.put (Nat.le_of_ble_eq_true hd) _) (hw.turn hu rfl rfl rfl (by simp) g1 g2)
theorem zv0 {κ : K → Value} {ν : V → Value} {t kt e : TypeId} {x y : Operand} {b : Nat} {z : Value} {zl : List Value} {l : List (K × V)} {k : K} (v : V) (hv : ν v = z) (hU : TU P t (.map kt e)) (hK : KL P kt κ) (hZ : TZ P e z zl) (hx : ev F x = some (.map (some b))) (hy : ev F y = some (κ k))
    (hat : At L b (MO (MM κ ν l))) (ho : asF k l = none) (hu : Upd L b (MO (MM κ ν l)) (MO (MM κ ν (l ++ [(k, v)]))) L') (hd : Nat.ble (d + 1) n = true)
    (h : St n D w0 ((d, .tuple #[z, .int .i64 l.length]) :: F) L' (WL r P ops Q rest)) : St n D w0 F L (WL r P ops Q (⟨some d, .mapEntry t x y, ty, pos, af, none⟩ :: rest)) :=
  zi0 rfl rfl fun a w ha hw => by
    have hb := hw.at hu.at
    have h1 := MapKept.run_getObj_map (P := P) hb
    have hr : (execOp a.eval ⟨some d, .mapEntry t x y, ty, pos, af, none⟩).run P w = .ok (.value (.tuple #[z, .int .i64 l.length])) { w with heap := w.heap.setIfInBounds b (MO (MM κ ν (l ++ [(k, v)]))) } := by
      have hlen : (MM κ ν l).length = l.length := by simp [MM]
      rw [zQ6, hv, ← hlen]
      simp [execOp, Instr.mapEntry, ha.eval hx, ha.eval hy, zb2 (TU.h (P := P) (t := t)), h1, hK.check, hK.out ho w, MapKept.run_setObj_map _ hb, TZ.h (P := P) (t := e), goInt]
    rw [hr]
    obtain ⟨g1, g2⟩ := MapKept.heap_set (o' := MO (MM κ ν (l ++ [(k, v)]))) hb
    exact h _ _ (ha.put (Nat.le_of_ble_eq_true hd) _) (hw.turn hu rfl rfl rfl (by simp) g1 g2)
theorem zH7 : ∀ (m : List (Value × Value)) (i j : Nat), j < m.length → ((zk4 i m).findIdx? fun e => (e.born : Int) == ((i + j : Nat) : Int)) = some j
  | [], i, j, h => by simp at h
  | p :: r, i, 0, _ => by simp [zk4, List.findIdx?_cons]
  | p :: r, i, j + 1, h => by
    have ih := zH7 r (i + 1) j (by simpa using h)
    have hne : ¬ ((i : Int) = ((i + (j + 1) : Nat) : Int)) := by omega
    rw [zk4, List.findIdx?_cons]
    simp only [beq_iff_eq, hne, if_false]
    rw [show i + (j + 1) = i + 1 + j from by omega, ih]; rfl
theorem zl9 {κ : K → Value} {ν : V → Value} {t : TypeId} {x y z : Operand} {b j : Nat} {l l2 : List (K × V)} (k : K) (u v : V) (hx : ev F x = some (.map (some b))) (hy : ev F y = some (.int .i64 j)) (hz : ev F z = some (ν v))
    (hat : At L b (MO (MM κ ν l))) (hj : l[j]? = some (k, u)) (hl : l.set j (k, v) = l2) (hu : Upd L b (MO (MM κ ν l)) (MO (MM κ ν l2)) L')
    (h : St n D w0 F L' (WL r P ops Q rest)) : St n D w0 F L (WL r P ops Q (⟨none, .entryStore t x y z, ty, pos, af, none⟩ :: rest)) := by
  subst hl
  exact zi0 rfl rfl fun a w ha hw => by
    have hb := hw.at hu.at
    have h1 := MapKept.run_getObj_map (P := P) hb
    have hlt : j < (MM κ ν l).length := by rw [MM, List.length_map]; exact (List.getElem?_eq_some_iff.1 hj).1
    have hidx := zH7 (MM κ ν l) 0 j hlt
    rw [Nat.zero_add] at hidx
    have hsame : ((zk4 0 (MM κ ν l)).toArray.modify j fun e => { e with val := ν v }) = ((zk4 0 (MM κ ν l)).toArray.modify j fun e => { e with key := κ k, val := ν v }) := by
      apply Array.ext'
      simp only [Array.toList_modify]
      apply List.ext_getElem?
      intro i
      rw [List.getElem?_modify, List.getElem?_modify]
      by_cases e : j = i
      · subst e
        have hg : (zk4 0 (MM κ ν l))[j]? = some ⟨κ k, ν u, j⟩ := zD6 hj
        simp [hg]
      · simp [e]
    have hr : (execOp a.eval ⟨none, .entryStore t x y z, ty, pos, af, none⟩).run P w = .ok .skip { w with heap := w.heap.setIfInBounds b (MO (MM κ ν (l.set j (k, v)))) } := by
      rw [zW3 hj, ← hsame]
      simp [execOp, Instr.entryStore, ha.eval hx, ha.eval hy, ha.eval hz, h1, asInt, asIntOf, hidx, MapKept.run_setObj_map _ hb]
    rw [hr]
    obtain ⟨g1, g2⟩ := MapKept.heap_set (o' := MO (MM κ ν (l.set j (k, v)))) hb
    exact h _ _ (ha.put_none _) (hw.turn hu rfl rfl rfl (by simp) g1 g2)
end
end Go.Sx
namespace Go.Sx
open Go Go.RowKit
def kP (p : Int × Int) : Value := .agg #[.int .i64 p.1, .int .i64 p.2]
theorem yw0 {a b : Int × Int} (h : kP a = kP b) : a = b := by
  have h1 : #[Value.int .i64 a.1, .int .i64 a.2] = #[Value.int .i64 b.1, .int .i64 b.2] := Value.agg.inj h
  have h2 := congrArg Array.toList h1
  simp at h2
  exact Prod.ext h2.1 h2.2
theorem yf9 {P : Program} {kt : TypeId} (hQ : TQ P kt [.int .i64, .int .i64]) (w : World) (a : Int × Int) : ∀ (es : List MapEntry) (i : Nat), (∀ e ∈ es, ∃ b, e.key = kP b) →
    ((Instr.findAsking kt (kP a) es i).run P w = .ok none w ∧ ∀ e ∈ es, e.key ≠ kP a) ∨ ∃ j e, (Instr.findAsking kt (kP a) es i).run P w = .ok (some (i + j, e.val)) w ∧ es[j]? = some e ∧ e.key = kP a
  | [], i, _ => .inl ⟨by simp [Instr.findAsking], by simp⟩
  | e :: es, i, hall => by
    obtain ⟨b, hb⟩ := hall e (by simp)
    have hr : (Op.equal kt (kP a) e.key).run P w = .ok (B (a.1 = b.1 ∧ a.2 = b.2)) w := by
      rw [hb]
      exact zo8 hQ (xs := [.int .i64 a.1, .int .i64 a.2]) (ys := [.int .i64 b.1, .int .i64 b.2]) (EqP.int EqP.int1) w
    by_cases hab : a.1 = b.1 ∧ a.2 = b.2
    · rw [zj0 hab] at hr
      exact .inr ⟨0, e, by simp [Instr.findAsking, hr], rfl, by rw [hb, Prod.ext hab.1 hab.2]⟩
    · rw [zc2 hab] at hr
      have hne : e.key ≠ kP a := fun h => hab (by
        have := yw0 (hb.symm.trans h)
        subst this
        exact ⟨rfl, rfl⟩)
      rcases yf9 hQ w a es (i + 1) (fun y hy => hall y (by simp [hy])) with ⟨h1, h2⟩ | ⟨j, e', h1, h2, h3⟩
      · refine .inl ⟨by simp [Instr.findAsking, hr, h1], fun y hy => ?_⟩
        rcases List.mem_cons.1 hy with rfl | hy
        · exact hne
        · exact h2 y hy
      · exact .inr ⟨j + 1, e', by simp [Instr.findAsking, hr, h1, Nat.add_assoc, Nat.add_comm 1 j], by simpa using h2, h3⟩
instance {P : Program} {kt : TypeId} [hQ : TQ P kt [.int .i64, .int .i64]] : KL P kt kP where
  inj := fun a b h => yw0 h
  check := fun e w a => by
    obtain ⟨fs, hu, hs, hg, hf⟩ := hQ.h
    obtain ⟨fl⟩ := fs
    cases fl with
    | nil => exact hf.elim
    | cons f1 fl =>
      obtain ⟨n1, o1, a1, u1, hf⟩ := hf
      cases fl with
      | nil => exact hf.elim
      | cons f2 fl =>
        obtain ⟨n2, o2, a2, u2, hf⟩ := hf
        cases fl with
        | cons _ _ => exact hf.elim
        | nil =>
          have m1 : f1.name ≠ "_" := by simpa using n1
          have m2 : f2.name ≠ "_" := by simpa using n2
          have p1 : (part f1.type #[Value.int .i64 a.1, .int .i64 a.2] f1.offset).run P w = .ok (.int .i64 a.1) w := by simp [part, a1, o1]
          have p2 : (part f2.type #[Value.int .i64 a.1, .int .i64 a.2] f2.offset).run P w = .ok (.int .i64 a.2) w := by simp [part, a2, o2]
          have c1 : (Instr.checkKey e 9999 f1.type (.int .i64 a.1)).run P w = .ok () w := MapKept.run_checkKey (k := .int .i64 a.1) u1 (show MapKept.IsKey (.int .i64) (.int .i64 a.1) from rfl) e 9998
          have c2 : (Instr.checkKey e 9999 f2.type (.int .i64 a.2)).run P w = .ok () w := MapKept.run_checkKey (k := .int .i64 a.2) u2 (show MapKept.IsKey (.int .i64) (.int .i64 a.2) from rfl) e 9998
          unfold Instr.checkKey kP
          simp [run_underlying hu, m1, m2, p1, p2, c1, c2, Result.andThen]
  find := fun w a es hall => by
    obtain ⟨fs, hu, hs, hg, hf⟩ := hQ.h
    rw [run_findKey_eq w (by rw [hu])]
    rcases yf9 hQ w a es 0 hall with h | ⟨j, e, h1, h2, h3⟩
    · exact .inl h
    · exact .inr ⟨j, e, by simpa using h1, h2, h3⟩
  stays := fun w a => by
    simp [Instr.keyThatStays, kP, Instr.sameBits]
section
variable {P : Program} {n : Nat} {D : List Deferred} {w0 : World} {F : List (Nat × Value)} {L L' : List Ent} {J J1 : Made} {Φ : zf2} {X : Act → World → Prop} {kq : Nat} {ops : Array Oper}
variable {d : Tmp} {ty : TypeId} {pos : String} {af : Array Edge} {rest : List Oper} {K V : Type} [DecidableEq K]
theorem zC2 {κ : K → Value} {ν : V → Value} {t kt e : TypeId} {x y : Operand} {b : Nat} {z : Value} {zl : List Value} {l : List (K × V)} {k : K} (hU : TU P t (.map kt e)) (hK : KL P kt κ) (hZ : TZ P e z zl) (hx : ev F x = some (.map (some b))) (hΦ : Φ kq = none) (hJ : SubJ ((anc ops).getD kq 0) J1 J) (hy : ev F y = some (κ k))
    (hk : Kn w0 (za9 J1 L) b (MO (MM κ ν l))) (ho : asF k l = none) (hd : Nat.ble (d + 1) n = true)
    (h : St n D w0 ((d, z) :: F) L (WQ P ops w0 L Φ X (kq + 1) J rest)) : St n D w0 F L (WQ P ops w0 L Φ X kq J (⟨some d, .lookup t x y false, ty, pos, af, none⟩ :: rest)) :=
  zA4 rfl hd hΦ hJ (fun a w ha hw => by
    have hb := hk w hw
    have h1 := MapKept.run_getObj_map (P := P) hb
    simp [execOp, Instr.lookup, ha.eval hx, ha.eval hy, zb2 (TU.h (P := P) (t := t)), h1, hK.check, hK.out ho w, TZ.h (P := P) (t := e)]) h
theorem zp7 {κ : K → Value} {ν : V → Value} {t kt e : TypeId} {x y : Operand} {b : Nat} {l : List (K × V)} {k : K} {v : V} (hU : TU P t (.map kt e)) (hK : KL P kt κ) (hx : ev F x = some (.map (some b))) (hΦ : Φ kq = none) (hJ : SubJ ((anc ops).getD kq 0) J1 J) (hy : ev F y = some (κ k))
    (hk : Kn w0 (za9 J1 L) b (MO (MM κ ν l))) (hn : (l.map Prod.fst).Nodup) (ho : asF k l = some v) (hd : Nat.ble (d + 1) n = true)
    (h : St n D w0 ((d, ν v) :: F) L (WQ P ops w0 L Φ X (kq + 1) J rest)) : St n D w0 F L (WQ P ops w0 L Φ X kq J (⟨some d, .lookup t x y false, ty, pos, af, none⟩ :: rest)) :=
  zA4 rfl hd hΦ hJ (fun a w ha hw => by
    have hb := hk w hw
    have h1 := MapKept.run_getObj_map (P := P) hb
    obtain ⟨j, hj⟩ := zm4 ho
    simp [execOp, Instr.lookup, ha.eval hx, ha.eval hy, zb2 (TU.h (P := P) (t := t)), h1, hK.check, hK.at hn hj w]) h
theorem zk2 {κ : K → Value} {ν : V → Value} {t kt e : TypeId} {x y : Operand} {b : Nat} {z : Value} {zl : List Value} {l : List (K × V)} {k : K} (hU : TU P t (.map kt e)) (hK : KL P kt κ) (hZ : TZ P e z zl) (hx : ev F x = some (.map (some b))) (hΦ : Φ kq = none) (hJ : SubJ ((anc ops).getD kq 0) J1 J) (hy : ev F y = some (κ k))
    (hk : Kn w0 (za9 J1 L) b (MO (MM κ ν l))) (ho : asF k l = none) (hd : Nat.ble (d + 1) n = true)
    (h : St n D w0 ((d, .tuple #[z, .bool false]) :: F) L (WQ P ops w0 L Φ X (kq + 1) J rest)) : St n D w0 F L (WQ P ops w0 L Φ X kq J (⟨some d, .lookup t x y true, ty, pos, af, none⟩ :: rest)) :=
  zA4 rfl hd hΦ hJ (fun a w ha hw => by
    have hb := hk w hw
    have h1 := MapKept.run_getObj_map (P := P) hb
    simp [execOp, Instr.lookup, ha.eval hx, ha.eval hy, zb2 (TU.h (P := P) (t := t)), h1, hK.check, hK.out ho w, TZ.h (P := P) (t := e)]) h
theorem zi5 {κ : K → Value} {ν : V → Value} {t kt e : TypeId} {x y : Operand} {b : Nat} {l : List (K × V)} {k : K} {v : V} (hU : TU P t (.map kt e)) (hK : KL P kt κ) (hx : ev F x = some (.map (some b))) (hΦ : Φ kq = none) (hJ : SubJ ((anc ops).getD kq 0) J1 J) (hy : ev F y = some (κ k))
    (hk : Kn w0 (za9 J1 L) b (MO (MM κ ν l))) (hn : (l.map Prod.fst).Nodup) (ho : asF k l = some v) (hd : Nat.ble (d + 1) n = true)
    (h : St n D w0 ((d, .tuple #[ν v, .bool true]) :: F) L (WQ P ops w0 L Φ X (kq + 1) J rest)) : St n D w0 F L (WQ P ops w0 L Φ X kq J (⟨some d, .lookup t x y true, ty, pos, af, none⟩ :: rest)) :=
  zA4 rfl hd hΦ hJ (fun a w ha hw => by
    have hb := hk w hw
    have h1 := MapKept.run_getObj_map (P := P) hb
    obtain ⟨j, hj⟩ := zm4 ho
    simp [execOp, Instr.lookup, ha.eval hx, ha.eval hy, zb2 (TU.h (P := P) (t := t)), h1, hK.check, hK.at hn hj w]) h
end
end Go.Sx
namespace Go.Sx
open Go Go.RowKit
section
variable {r : Option Nat} {P : Program} {n : Nat} {D : List Deferred} {w0 : World} {F : List (Nat × Value)} {L : List Ent} {Q : Exit → Act → World → Prop}
end
end Go.Sx
namespace Go.Sx
open Go Go.RowKit
theorem rV_ {P : Program} {n : Nat} {D : List Deferred} {w0 : World} {F : List (Nat × Value)} {L : List Ent} {r : ResultVar} {v : Value} (h : zN2 P n D w0 F L r v := by ((focus ((first | exact yJ7 rfl | (apply yF6; infer_instance; rfl; (first | exact Kn.old (by assumption) rfl | (apply Kn.oldA; assumption; ((focus (repeat (first | exact AO.nil | apply AO.cons | (apply AO.app; assumption)))) <;> fail)) | (apply Kn.apart; assumption; ((focus (repeat (first | exact Apart.nil | apply Apart.own | (apply Apart.given; assumption) | (apply Apart.app; assumption)))) <;> fail)) | (refine Kn.at ?_; ((focus (repeat (first | assumption | exact At.hd | refine At.tl ?_ | (refine At.left ?_; assumption) | refine At.right ?_))) <;> fail))); (repeat (first | exact Nth.z | apply Nth.s))) | (apply yy8; infer_instance; infer_instance; rfl; (first | exact Kn.old (by assumption) rfl | (apply Kn.oldA; assumption; ((focus (repeat (first | exact AO.nil | apply AO.cons | (apply AO.app; assumption)))) <;> fail)) | (apply Kn.apart; assumption; ((focus (repeat (first | exact Apart.nil | apply Apart.own | (apply Apart.given; assumption) | (apply Apart.app; assumption)))) <;> fail)) | (refine Kn.at ?_; ((focus (repeat (first | assumption | exact At.hd | refine At.tl ?_ | (refine At.left ?_; assumption) | refine At.right ?_))) <;> fail))); rfl)))) <;> fail)) : zN2 P n D w0 F L r v := h
theorem gG_ {c b : Bool} (h : c = b := by ((focus ((first | rfl | assumption | exact decide_eq_true (by first | assumption | omega) | exact zj0 (by first | assumption | omega | decide) | rfl | assumption | exact decide_eq_false (by first | assumption | omega) | exact zc2 (by first | assumption | omega | decide)))) <;> fail)) : c = b := h
theorem tT_ {t : Bool} (h : t = true := by ((focus ((first | rfl | assumption | exact decide_eq_true (by first | assumption | omega) | exact zj0 (by first | assumption | omega | decide)))) <;> fail)) : t = true := h
theorem fF_ {t : Bool} (h : t = false := by ((focus ((first | rfl | assumption | exact decide_eq_false (by first | assumption | omega) | exact zc2 (by first | assumption | omega | decide)))) <;> fail)) : t = false := h
theorem hS_ {L L1 : List Ent} (h : HSub L1 L := by ((focus (((try dsimp only); repeat (first | exact HSub.nil rfl | (apply HSub.take; (repeat (first | exact Rem.hd | apply Rem.tl | apply Rem.right))) | exact HSub.same | (apply HSub.takeL; ((focus (repeat (first | exact RemL.hd | exact RemL.all | exact RemL.nil | apply RemL.tl | apply RemL.right))) <;> fail)) | apply HSub.drop | (apply HSub.takeL; (focus ((repeat (first | exact RemL.hd | exact RemL.all | exact RemL.nil | apply RemL.tl | apply RemL.right))))) | (apply HSub.takeA; (first | exact RemL.hd | exact RemL.all); ((focus (repeat (first | exact AO.nil | apply AO.cons | (apply AO.app; assumption)))) <;> fail)) | (apply HSub.dropL; assumption) | (apply HSub.takeA; (focus ((repeat (first | exact RemL.hd | exact RemL.all | exact RemL.nil | apply RemL.tl | apply RemL.right)))); ((focus (repeat (first | exact AO.nil | apply AO.cons | (apply AO.app; assumption)))) <;> fail)) | (apply HSub.nilA; ((focus (repeat (first | exact AO.nil | apply AO.cons | (apply AO.app; assumption)))) <;> fail)))))) <;> fail)) : HSub L1 L := h
theorem kN_ {w0 : World} {L : List Ent} {b : Nat} {o : Obj} (h : Kn w0 L b o := by ((focus ((first | exact Kn.old (by assumption) rfl | (apply Kn.oldA; assumption; ((focus (repeat (first | exact AO.nil | apply AO.cons | (apply AO.app; assumption)))) <;> fail)) | (apply Kn.apart; assumption; ((focus (repeat (first | exact Apart.nil | apply Apart.own | (apply Apart.given; assumption) | (apply Apart.app; assumption)))) <;> fail)) | (refine Kn.at ?_; ((focus (repeat (first | assumption | exact At.hd | refine At.tl ?_ | (refine At.left ?_; assumption) | refine At.right ?_))) <;> fail))))) <;> fail)) : Kn w0 L b o := h
theorem uP_ {L L1 : List Ent} {b : Nat} {o o1 : Obj} (h : Upd L b o o1 L1 := by ((focus ((repeat (first | exact Upd.hd | apply Upd.tl | apply Upd.right)))) <;> fail)) : Upd L b o o1 L1 := h
theorem nT_ {k : Nat} {l : List Value} {v : Value} (h : Nth l k v := by ((focus ((repeat (first | exact Nth.z | apply Nth.s)))) <;> fail)) : Nth l k v := h
theorem sJ_ {J J1 : Made} {k : Nat} (h : SubJ k J1 J := by ((focus ((focus (repeat (first | (apply SubJ.keep; (decide +kernel)) | apply SubJ.drop | exact SubJ.nil))))) <;> fail)) : SubJ k J1 J := h
theorem eV_ {F : List (Nat × Value)} {l : List Value} {xs : List Operand} (h : Evs F xs l := by ((focus ((repeat (first | exact Evs.nil | apply Evs.cons rfl)))) <;> fail)) : Evs F xs l := h
theorem fS_ {F F1 : List (Nat × Value)} (h : FSub F1 F := by ((focus ((repeat (first | exact FSub.nil | refine FSub.cons rfl ?_)))) <;> fail)) : FSub F1 F := h
theorem aO_ {L : List Ent} (h : AO L := by ((focus (((focus (repeat (first | exact AO.nil | apply AO.cons | (apply AO.app; assumption)))) <;> fail))) <;> fail)) : AO L := h
theorem aT_ {L : List Ent} {b : Nat} {o : Obj} (h : At L b o := by ((focus (((focus (repeat (first | assumption | exact At.hd | refine At.tl ?_ | (refine At.left ?_; assumption) | refine At.right ?_))) <;> fail))) <;> fail)) : At L b o := h
theorem rL_ {L L1 L2 : List Ent} (h : RemL L L1 L2 := by ((focus ((repeat (first | exact RemL.hd | exact RemL.all | exact RemL.nil | apply RemL.tl | apply RemL.right)))) <;> fail)) : RemL L L1 L2 := h
theorem dT_ {p : Prop} [Decidable p] (h : p := by ((focus omega) <;> fail)) : decide p = true := decide_eq_true h
theorem dF_ {p : Prop} [Decidable p] (h : ¬ p := by ((focus omega) <;> fail)) : decide p = false := decide_eq_false h
end Go.Sx
namespace Go.Proofs.Ytdahckhlfldkkaa
open Go Go.Sx
instance : TU Try.prog 3 (.int .i64) := ⟨Try.underlying3⟩
instance : TS Try.prog 3 1 := ⟨fun w => by simp only [sizeOf, Sem.run_bind, Try.typeInfo3]; rfl⟩
instance : TA Try.prog 3 false := ⟨Try.isAgg3⟩
instance : TZ Try.prog 3 (.int .i64 (0)) [(.int .i64 (0))] := ⟨Try.zeroValue3, rfl⟩
instance : TS Try.prog 4 1 := ⟨fun w => by simp only [sizeOf, Sem.run_bind, Try.typeInfo4]; rfl⟩
instance : TA Try.prog 4 false := ⟨Try.isAgg4⟩
instance : TZ Try.prog 4 (.bool false) [(.bool false)] := ⟨Try.zeroValue4, rfl⟩
instance : TU Try.prog 5 (.int .u8) := ⟨Try.underlying5⟩
instance : TS Try.prog 5 1 := ⟨fun w => by simp only [sizeOf, Sem.run_bind, Try.typeInfo5]; rfl⟩
instance : TA Try.prog 5 false := ⟨Try.isAgg5⟩
instance : TU Try.prog 22 (.slice 67) := ⟨Try.underlying22⟩
instance : TS Try.prog 22 1 := ⟨fun w => by simp only [sizeOf, Sem.run_bind, Try.typeInfo22]; rfl⟩
instance : TA Try.prog 22 false := ⟨Try.isAgg22⟩
instance : TU Try.prog 23 (.slice 88) := ⟨Try.underlying23⟩
instance : TS Try.prog 23 1 := ⟨fun w => by simp only [sizeOf, Sem.run_bind, Try.typeInfo23]; rfl⟩
instance : TA Try.prog 23 false := ⟨Try.isAgg23⟩
instance : TU Try.prog 24 (.slice 49) := ⟨Try.underlying24⟩
instance : TS Try.prog 24 1 := ⟨fun w => by simp only [sizeOf, Sem.run_bind, Try.typeInfo24]; rfl⟩
instance : TA Try.prog 24 false := ⟨Try.isAgg24⟩
instance : TS Try.prog 26 3 := ⟨fun w => by simp only [sizeOf, Sem.run_bind, Try.typeInfo26]; rfl⟩
instance : TA Try.prog 26 true := ⟨Try.isAgg26⟩
instance : TZ Try.prog 26 (.agg #[(.slice none 0 0), (.slice none 0 0), (.slice none 0 0)]) [(.slice none 0 0), (.slice none 0 0), (.slice none 0 0)] := ⟨Try.zeroValue26, rfl⟩
instance : TU Try.prog 29 (.slice 85) := ⟨Try.underlying29⟩
instance : TS Try.prog 29 1 := ⟨fun w => by simp only [sizeOf, Sem.run_bind, Try.typeInfo29]; rfl⟩
instance : TA Try.prog 29 false := ⟨Try.isAgg29⟩
instance : TU Try.prog 30 (.slice 89) := ⟨Try.underlying30⟩
instance : TS Try.prog 30 1 := ⟨fun w => by simp only [sizeOf, Sem.run_bind, Try.typeInfo30]; rfl⟩
instance : TA Try.prog 30 false := ⟨Try.isAgg30⟩
instance : TU Try.prog 31 (.slice 93) := ⟨Try.underlying31⟩
instance : TS Try.prog 31 1 := ⟨fun w => by simp only [sizeOf, Sem.run_bind, Try.typeInfo31]; rfl⟩
instance : TA Try.prog 31 false := ⟨Try.isAgg31⟩
instance : TS Try.prog 33 3 := ⟨fun w => by simp only [sizeOf, Sem.run_bind, Try.typeInfo33]; rfl⟩
instance : TA Try.prog 33 true := ⟨Try.isAgg33⟩
instance : TZ Try.prog 33 (.agg #[(.slice none 0 0), (.slice none 0 0), (.slice none 0 0)]) [(.slice none 0 0), (.slice none 0 0), (.slice none 0 0)] := ⟨Try.zeroValue33, rfl⟩
instance : TS Try.prog 38 3 := ⟨fun w => by simp only [sizeOf, Sem.run_bind, Try.typeInfo38]; rfl⟩
instance : TA Try.prog 38 true := ⟨Try.isAgg38⟩
instance : TZ Try.prog 38 (.agg #[(.int .u8 (0)), (.int .i64 (0)), (.int .i64 (0))]) [(.int .u8 (0)), (.int .i64 (0)), (.int .i64 (0))] := ⟨Try.zeroValue38, rfl⟩
instance : TS Try.prog 39 1 := ⟨fun w => by simp only [sizeOf, Sem.run_bind, Try.typeInfo39]; rfl⟩
instance : TA Try.prog 39 false := ⟨Try.isAgg39⟩
instance : TZ Try.prog 39 (.int .i64 (0)) [(.int .i64 (0))] := ⟨Try.zeroValue39, rfl⟩
instance : TU Try.prog 44 (.slice 3) := ⟨Try.underlying44⟩
instance : TS Try.prog 44 1 := ⟨fun w => by simp only [sizeOf, Sem.run_bind, Try.typeInfo44]; rfl⟩
instance : TA Try.prog 44 false := ⟨Try.isAgg44⟩
instance : TZ Try.prog 44 (.slice none 0 0) [(.slice none 0 0)] := ⟨Try.zeroValue44, rfl⟩
instance : TU Try.prog 46 (.slice 95) := ⟨Try.underlying46⟩
instance : TS Try.prog 46 1 := ⟨fun w => by simp only [sizeOf, Sem.run_bind, Try.typeInfo46]; rfl⟩
instance : TA Try.prog 46 false := ⟨Try.isAgg46⟩
instance : TU Try.prog 47 (.slice 98) := ⟨Try.underlying47⟩
instance : TS Try.prog 47 1 := ⟨fun w => by simp only [sizeOf, Sem.run_bind, Try.typeInfo47]; rfl⟩
instance : TA Try.prog 47 false := ⟨Try.isAgg47⟩
instance : TS Try.prog 49 6 := ⟨fun w => by simp only [sizeOf, Sem.run_bind, Try.typeInfo49]; rfl⟩
instance : TA Try.prog 49 true := ⟨Try.isAgg49⟩
instance : TZ Try.prog 49 (.agg #[(.int .i64 (0)), (.int .i64 (0)), (.int .i64 (0)), (.slice none 0 0), (.slice none 0 0), (.slice none 0 0)]) [(.int .i64 (0)), (.int .i64 (0)), (.int .i64 (0)), (.slice none 0 0), (.slice none 0 0), (.slice none 0 0)] := ⟨Try.zeroValue49, rfl⟩
instance : TU Try.prog 50 (.slice 53) := ⟨Try.underlying50⟩
instance : TS Try.prog 53 1 := ⟨fun w => by simp only [sizeOf, Sem.run_bind, Try.typeInfo53]; rfl⟩
instance : TA Try.prog 53 false := ⟨Try.isAgg53⟩
instance : TZ Try.prog 53 (.pointer none) [(.pointer none)] := ⟨Try.zeroValue53, rfl⟩
instance : TU Try.prog 58 (.slice 106) := ⟨Try.underlying58⟩
instance : TU Try.prog 61 (.slice 74) := ⟨Try.underlying61⟩
instance : TA Try.prog 61 false := ⟨Try.isAgg61⟩
instance : TU Try.prog 65 (.slice 81) := ⟨Try.underlying65⟩
instance : TS Try.prog 65 1 := ⟨fun w => by simp only [sizeOf, Sem.run_bind, Try.typeInfo65]; rfl⟩
instance : TA Try.prog 65 false := ⟨Try.isAgg65⟩
instance : TS Try.prog 67 5 := ⟨fun w => by simp only [sizeOf, Sem.run_bind, Try.typeInfo67]; rfl⟩
instance : TA Try.prog 67 true := ⟨Try.isAgg67⟩
instance : TZ Try.prog 67 (.agg #[(.int .i64 (0)), (.int .i64 (0)), (.int .i64 (0)), (.slice none 0 0), (.slice none 0 0)]) [(.int .i64 (0)), (.int .i64 (0)), (.int .i64 (0)), (.slice none 0 0), (.slice none 0 0)] := ⟨Try.zeroValue67, rfl⟩
instance : TU Try.prog 68 (.slice 76) := ⟨Try.underlying68⟩
instance : TS Try.prog 68 1 := ⟨fun w => by simp only [sizeOf, Sem.run_bind, Try.typeInfo68]; rfl⟩
instance : TA Try.prog 68 false := ⟨Try.isAgg68⟩
instance : TU Try.prog 69 (.slice 44) := ⟨Try.underlying69⟩
instance : TS Try.prog 69 1 := ⟨fun w => by simp only [sizeOf, Sem.run_bind, Try.typeInfo69]; rfl⟩
instance : TA Try.prog 69 false := ⟨Try.isAgg69⟩
instance : TU Try.prog 70 (.slice 173) := ⟨Try.underlying70⟩
instance : TS Try.prog 70 1 := ⟨fun w => by simp only [sizeOf, Sem.run_bind, Try.typeInfo70]; rfl⟩
instance : TA Try.prog 70 false := ⟨Try.isAgg70⟩
instance : TS Try.prog 72 5 := ⟨fun w => by simp only [sizeOf, Sem.run_bind, Try.typeInfo72]; rfl⟩
instance : TA Try.prog 72 true := ⟨Try.isAgg72⟩
instance : TZ Try.prog 72 (.agg #[(.slice none 0 0), (.slice none 0 0), (.slice none 0 0), (.slice none 0 0), (.slice none 0 0)]) [(.slice none 0 0), (.slice none 0 0), (.slice none 0 0), (.slice none 0 0), (.slice none 0 0)] := ⟨Try.zeroValue72, rfl⟩
instance : TS Try.prog 74 10 := ⟨fun w => by simp only [sizeOf, Sem.run_bind, Try.typeInfo74]; rfl⟩
instance : TA Try.prog 74 true := ⟨Try.isAgg74⟩
instance : TZ Try.prog 74 (.agg #[(.int .i64 (0)), (.int .i64 (0)), (.int .i64 (0)), (.slice none 0 0), (.slice none 0 0), (.slice none 0 0), (.slice none 0 0), (.slice none 0 0), (.slice none 0 0), (.slice none 0 0)]) [(.int .i64 (0)), (.int .i64 (0)), (.int .i64 (0)), (.slice none 0 0), (.slice none 0 0), (.slice none 0 0), (.slice none 0 0), (.slice none 0 0), (.slice none 0 0), (.slice none 0 0)] := ⟨Try.zeroValue74, rfl⟩
instance : TS Try.prog 76 3 := ⟨fun w => by simp only [sizeOf, Sem.run_bind, Try.typeInfo76]; rfl⟩
instance : TA Try.prog 76 true := ⟨Try.isAgg76⟩
instance : TZ Try.prog 76 (.agg #[(.int .i64 (0)), (.int .i64 (0)), (.int .i64 (0))]) [(.int .i64 (0)), (.int .i64 (0)), (.int .i64 (0))] := ⟨Try.zeroValue76, rfl⟩
instance : TS Try.prog 81 2 := ⟨fun w => by simp only [sizeOf, Sem.run_bind, Try.typeInfo81]; rfl⟩
instance : TA Try.prog 81 true := ⟨Try.isAgg81⟩
instance : TZ Try.prog 81 (.agg #[(.int .i64 (0)), (.int .i64 (0))]) [(.int .i64 (0)), (.int .i64 (0))] := ⟨Try.zeroValue81, rfl⟩
instance : TU Try.prog 83 (.slice 86) := ⟨Try.underlying83⟩
instance : TS Try.prog 83 1 := ⟨fun w => by simp only [sizeOf, Sem.run_bind, Try.typeInfo83]; rfl⟩
instance : TA Try.prog 83 false := ⟨Try.isAgg83⟩
instance : TS Try.prog 85 5 := ⟨fun w => by simp only [sizeOf, Sem.run_bind, Try.typeInfo85]; rfl⟩
instance : TA Try.prog 85 true := ⟨Try.isAgg85⟩
instance : TZ Try.prog 85 (.agg #[(.int .i64 (0)), (.int .i64 (0)), (.int .i64 (0)), (.slice none 0 0), (.slice none 0 0)]) [(.int .i64 (0)), (.int .i64 (0)), (.int .i64 (0)), (.slice none 0 0), (.slice none 0 0)] := ⟨Try.zeroValue85, rfl⟩
instance : TS Try.prog 86 2 := ⟨fun w => by simp only [sizeOf, Sem.run_bind, Try.typeInfo86]; rfl⟩
instance : TA Try.prog 86 true := ⟨Try.isAgg86⟩
instance : TZ Try.prog 86 (.agg #[(.int .i64 (0)), (.int .i64 (0))]) [(.int .i64 (0)), (.int .i64 (0))] := ⟨Try.zeroValue86, rfl⟩
instance : TS Try.prog 88 3 := ⟨fun w => by simp only [sizeOf, Sem.run_bind, Try.typeInfo88]; rfl⟩
instance : TA Try.prog 88 true := ⟨Try.isAgg88⟩
instance : TZ Try.prog 88 (.agg #[(.int .i64 (0)), (.int .i64 (0)), (.int .i64 (0))]) [(.int .i64 (0)), (.int .i64 (0)), (.int .i64 (0))] := ⟨Try.zeroValue88, rfl⟩
instance : TS Try.prog 89 3 := ⟨fun w => by simp only [sizeOf, Sem.run_bind, Try.typeInfo89]; rfl⟩
instance : TA Try.prog 89 true := ⟨Try.isAgg89⟩
instance : TZ Try.prog 89 (.agg #[(.int .i64 (0)), (.int .i64 (0)), (.int .i64 (0))]) [(.int .i64 (0)), (.int .i64 (0)), (.int .i64 (0))] := ⟨Try.zeroValue89, rfl⟩
instance : TU Try.prog 90 (.slice 96) := ⟨Try.underlying90⟩
instance : TS Try.prog 90 1 := ⟨fun w => by simp only [sizeOf, Sem.run_bind, Try.typeInfo90]; rfl⟩
instance : TA Try.prog 90 false := ⟨Try.isAgg90⟩
instance : TU Try.prog 91 (.slice 99) := ⟨Try.underlying91⟩
instance : TS Try.prog 91 1 := ⟨fun w => by simp only [sizeOf, Sem.run_bind, Try.typeInfo91]; rfl⟩
instance : TA Try.prog 91 false := ⟨Try.isAgg91⟩
instance : TS Try.prog 93 6 := ⟨fun w => by simp only [sizeOf, Sem.run_bind, Try.typeInfo93]; rfl⟩
instance : TA Try.prog 93 true := ⟨Try.isAgg93⟩
instance : TZ Try.prog 93 (.agg #[(.int .i64 (0)), (.int .i64 (0)), (.int .i64 (0)), (.slice none 0 0), (.slice none 0 0), (.slice none 0 0)]) [(.int .i64 (0)), (.int .i64 (0)), (.int .i64 (0)), (.slice none 0 0), (.slice none 0 0), (.slice none 0 0)] := ⟨Try.zeroValue93, rfl⟩
instance : TS Try.prog 95 2 := ⟨fun w => by simp only [sizeOf, Sem.run_bind, Try.typeInfo95]; rfl⟩
instance : TA Try.prog 95 true := ⟨Try.isAgg95⟩
instance : TZ Try.prog 95 (.agg #[(.int .i64 (0)), (.int .i64 (0))]) [(.int .i64 (0)), (.int .i64 (0))] := ⟨Try.zeroValue95, rfl⟩
instance : TS Try.prog 96 2 := ⟨fun w => by simp only [sizeOf, Sem.run_bind, Try.typeInfo96]; rfl⟩
instance : TA Try.prog 96 true := ⟨Try.isAgg96⟩
instance : TZ Try.prog 96 (.agg #[(.int .i64 (0)), (.int .i64 (0))]) [(.int .i64 (0)), (.int .i64 (0))] := ⟨Try.zeroValue96, rfl⟩
instance : TS Try.prog 98 2 := ⟨fun w => by simp only [sizeOf, Sem.run_bind, Try.typeInfo98]; rfl⟩
instance : TA Try.prog 98 true := ⟨Try.isAgg98⟩
instance : TZ Try.prog 98 (.agg #[(.int .i64 (0)), (.int .i64 (0))]) [(.int .i64 (0)), (.int .i64 (0))] := ⟨Try.zeroValue98, rfl⟩
instance : TS Try.prog 99 2 := ⟨fun w => by simp only [sizeOf, Sem.run_bind, Try.typeInfo99]; rfl⟩
instance : TZ Try.prog 99 (.agg #[(.int .i64 (0)), (.int .i64 (0))]) [(.int .i64 (0)), (.int .i64 (0))] := ⟨Try.zeroValue99, rfl⟩
instance : TU Try.prog 101 (.slice 139) := ⟨Try.underlying101⟩
instance : TS Try.prog 101 1 := ⟨fun w => by simp only [sizeOf, Sem.run_bind, Try.typeInfo101]; rfl⟩
instance : TA Try.prog 101 false := ⟨Try.isAgg101⟩
instance : TU Try.prog 102 (.slice 174) := ⟨Try.underlying102⟩
instance : TS Try.prog 102 1 := ⟨fun w => by simp only [sizeOf, Sem.run_bind, Try.typeInfo102]; rfl⟩
instance : TA Try.prog 102 false := ⟨Try.isAgg102⟩
instance : TS Try.prog 104 5 := ⟨fun w => by simp only [sizeOf, Sem.run_bind, Try.typeInfo104]; rfl⟩
instance : TA Try.prog 104 true := ⟨Try.isAgg104⟩
instance : TZ Try.prog 104 (.agg #[(.slice none 0 0), (.slice none 0 0), (.slice none 0 0), (.slice none 0 0), (.slice none 0 0)]) [(.slice none 0 0), (.slice none 0 0), (.slice none 0 0), (.slice none 0 0), (.slice none 0 0)] := ⟨Try.zeroValue104, rfl⟩
instance : TS Try.prog 106 10 := ⟨fun w => by simp only [sizeOf, Sem.run_bind, Try.typeInfo106]; rfl⟩
instance : TA Try.prog 106 true := ⟨Try.isAgg106⟩
instance : TZ Try.prog 106 (.agg #[(.int .i64 (0)), (.int .i64 (0)), (.int .i64 (0)), (.slice none 0 0), (.slice none 0 0), (.slice none 0 0), (.slice none 0 0), (.slice none 0 0), (.slice none 0 0), (.slice none 0 0)]) [(.int .i64 (0)), (.int .i64 (0)), (.int .i64 (0)), (.slice none 0 0), (.slice none 0 0), (.slice none 0 0), (.slice none 0 0), (.slice none 0 0), (.slice none 0 0), (.slice none 0 0)] := ⟨Try.zeroValue106, rfl⟩
instance : TU Try.prog 112 (.map 3 3) := ⟨Try.underlying112⟩
instance : TS Try.prog 112 1 := ⟨fun w => by simp only [sizeOf, Sem.run_bind, Try.typeInfo112]; rfl⟩
instance : TA Try.prog 112 false := ⟨Try.isAgg112⟩
instance : TZ Try.prog 112 (.map none) [(.map none)] := ⟨Try.zeroValue112, rfl⟩
instance : TU Try.prog 125 (.map 95 4) := ⟨Try.underlying125⟩
instance : TS Try.prog 125 1 := ⟨fun w => by simp only [sizeOf, Sem.run_bind, Try.typeInfo125]; rfl⟩
instance : TA Try.prog 125 false := ⟨Try.isAgg125⟩
instance : TS Try.prog 127 3 := ⟨fun w => by simp only [sizeOf, Sem.run_bind, Try.typeInfo127]; rfl⟩
instance : TZ Try.prog 127 (.agg #[(.map none), (.map none), (.map none)]) [(.map none), (.map none), (.map none)] := ⟨Try.zeroValue127, rfl⟩
instance : TU Try.prog 130 (.map 3 4) := ⟨Try.underlying130⟩
instance : TU Try.prog 133 (.map 3 67) := ⟨Try.underlying133⟩
instance : TS Try.prog 133 1 := ⟨fun w => by simp only [sizeOf, Sem.run_bind, Try.typeInfo133]; rfl⟩
instance : TA Try.prog 133 false := ⟨Try.isAgg133⟩
instance : TU Try.prog 134 (.map 95 44) := ⟨Try.underlying134⟩
instance : TS Try.prog 134 1 := ⟨fun w => by simp only [sizeOf, Sem.run_bind, Try.typeInfo134]; rfl⟩
instance : TA Try.prog 134 false := ⟨Try.isAgg134⟩
instance : TS Try.prog 136 5 := ⟨fun w => by simp only [sizeOf, Sem.run_bind, Try.typeInfo136]; rfl⟩
instance : TZ Try.prog 136 (.agg #[(.map none), (.map none), (.map none), (.map none), (.map none)]) [(.map none), (.map none), (.map none), (.map none), (.map none)] := ⟨Try.zeroValue136, rfl⟩
instance : TS Try.prog 139 3 := ⟨fun w => by simp only [sizeOf, Sem.run_bind, Try.typeInfo139]; rfl⟩
instance : TZ Try.prog 139 (.agg #[(.int .i64 (0)), (.int .i64 (0)), (.int .i64 (0))]) [(.int .i64 (0)), (.int .i64 (0)), (.int .i64 (0))] := ⟨Try.zeroValue139, rfl⟩
instance : TU Try.prog 145 (.slice 163) := ⟨Try.underlying145⟩
instance : TU Try.prog 149 (.slice 151) := ⟨Try.underlying149⟩
instance : TS Try.prog 163 2 := ⟨fun w => by simp only [sizeOf, Sem.run_bind, Try.typeInfo163]; rfl⟩
instance : TA Try.prog 163 true := ⟨Try.isAgg163⟩
instance : TZ Try.prog 163 (.agg #[(.int .i64 (0)), (.int .i64 (0))]) [(.int .i64 (0)), (.int .i64 (0))] := ⟨Try.zeroValue163, rfl⟩
instance : TS Try.prog 167 4 := ⟨fun w => by simp only [sizeOf, Sem.run_bind, Try.typeInfo167]; rfl⟩
instance : TA Try.prog 167 true := ⟨Try.isAgg167⟩
instance : TZ Try.prog 167 (.agg #[(.int .i64 (0)), (.int .i64 (0)), (.int .i64 (0)), (.int .i64 (0))]) [(.int .i64 (0)), (.int .i64 (0)), (.int .i64 (0)), (.int .i64 (0))] := ⟨Try.zeroValue167, rfl⟩
instance : TU Try.prog 168 (.slice 167) := ⟨Try.underlying168⟩
instance : TA Try.prog 168 false := ⟨Try.isAgg168⟩
instance : TU Try.prog 170 (.slice 186) := ⟨Try.underlying170⟩
instance : TS Try.prog 173 3 := ⟨fun w => by simp only [sizeOf, Sem.run_bind, Try.typeInfo173]; rfl⟩
instance : TA Try.prog 173 true := ⟨Try.isAgg173⟩
instance : TZ Try.prog 173 (.agg #[(.int .u8 (0)), (.int .i64 (0)), (.int .i64 (0))]) [(.int .u8 (0)), (.int .i64 (0)), (.int .i64 (0))] := ⟨Try.zeroValue173, rfl⟩
instance : TS Try.prog 174 3 := ⟨fun w => by simp only [sizeOf, Sem.run_bind, Try.typeInfo174]; rfl⟩
instance : TZ Try.prog 174 (.agg #[(.int .u8 (0)), (.int .i64 (0)), (.int .i64 (0))]) [(.int .u8 (0)), (.int .i64 (0)), (.int .i64 (0))] := ⟨Try.zeroValue174, rfl⟩
instance : TU Try.prog 180 (.map 3 167) := ⟨Try.underlying180⟩
instance : TS Try.prog 186 2 := ⟨fun w => by simp only [sizeOf, Sem.run_bind, Try.typeInfo186]; rfl⟩
instance : TA Try.prog 186 true := ⟨Try.isAgg186⟩
instance : TZ Try.prog 186 (.agg #[(.int .i64 (0)), (.int .i64 (0))]) [(.int .i64 (0)), (.int .i64 (0))] := ⟨Try.zeroValue186, rfl⟩
instance : TZ Try.prog 192 (.agg #[(.slice none 0 0), (.slice none 0 0), (.slice none 0 0), (.slice none 0 0), (.slice none 0 0), (.slice none 0 0), (.slice none 0 0), (.int .i64 (0))]) [(.slice none 0 0), (.slice none 0 0), (.slice none 0 0), (.slice none 0 0), (.slice none 0 0), (.slice none 0 0), (.slice none 0 0), (.int .i64 (0))] := ⟨Try.zeroValue192, rfl⟩
instance : TE Try.prog 3 1 8 (.int .i64 (0)) := ⟨⟨Try.t3, by kernel_rfl, rfl, rfl, rfl⟩⟩
instance : TE Try.prog 44 1 24 (.slice none 0 0) := ⟨⟨Try.t44, by kernel_rfl, rfl, rfl, rfl⟩⟩
instance : TE Try.prog 53 1 8 (.pointer none) := ⟨⟨Try.t53, by kernel_rfl, rfl, rfl, rfl⟩⟩
instance : TE Try.prog 74 10 192 (.agg #[(.int .i64 (0)), (.int .i64 (0)), (.int .i64 (0)), (.slice none 0 0), (.slice none 0 0), (.slice none 0 0), (.slice none 0 0), (.slice none 0 0), (.slice none 0 0), (.slice none 0 0)]) := ⟨⟨Try.t74, by kernel_rfl, rfl, rfl, rfl⟩⟩
instance : TE Try.prog 76 3 24 (.agg #[(.int .i64 (0)), (.int .i64 (0)), (.int .i64 (0))]) := ⟨⟨Try.t76, by kernel_rfl, rfl, rfl, rfl⟩⟩
instance : TE Try.prog 85 5 72 (.agg #[(.int .i64 (0)), (.int .i64 (0)), (.int .i64 (0)), (.slice none 0 0), (.slice none 0 0)]) := ⟨⟨Try.t85, by kernel_rfl, rfl, rfl, rfl⟩⟩
instance : TE Try.prog 86 2 16 (.agg #[(.int .i64 (0)), (.int .i64 (0))]) := ⟨⟨Try.t86, by kernel_rfl, rfl, rfl, rfl⟩⟩
instance : TE Try.prog 89 3 24 (.agg #[(.int .i64 (0)), (.int .i64 (0)), (.int .i64 (0))]) := ⟨⟨Try.t89, by kernel_rfl, rfl, rfl, rfl⟩⟩
instance : TE Try.prog 93 6 96 (.agg #[(.int .i64 (0)), (.int .i64 (0)), (.int .i64 (0)), (.slice none 0 0), (.slice none 0 0), (.slice none 0 0)]) := ⟨⟨Try.t93, by kernel_rfl, rfl, rfl, rfl⟩⟩
instance : TE Try.prog 96 2 16 (.agg #[(.int .i64 (0)), (.int .i64 (0))]) := ⟨⟨Try.t96, by kernel_rfl, rfl, rfl, rfl⟩⟩
instance : TE Try.prog 99 2 16 (.agg #[(.int .i64 (0)), (.int .i64 (0))]) := ⟨⟨Try.t99, by kernel_rfl, rfl, rfl, rfl⟩⟩
instance : TE Try.prog 106 10 192 (.agg #[(.int .i64 (0)), (.int .i64 (0)), (.int .i64 (0)), (.slice none 0 0), (.slice none 0 0), (.slice none 0 0), (.slice none 0 0), (.slice none 0 0), (.slice none 0 0), (.slice none 0 0)]) := ⟨⟨Try.t106, by kernel_rfl, rfl, rfl, rfl⟩⟩
instance : TE Try.prog 139 3 24 (.agg #[(.int .i64 (0)), (.int .i64 (0)), (.int .i64 (0))]) := ⟨⟨Try.t139, by kernel_rfl, rfl, rfl, rfl⟩⟩
instance : TE Try.prog 163 2 16 (.agg #[(.int .i64 (0)), (.int .i64 (0))]) := ⟨⟨Try.t163, by kernel_rfl, rfl, rfl, rfl⟩⟩
instance : TE Try.prog 173 3 24 (.agg #[(.int .u8 (0)), (.int .i64 (0)), (.int .i64 (0))]) := ⟨⟨Try.t173, by kernel_rfl, rfl, rfl, rfl⟩⟩
instance : TE Try.prog 174 3 24 (.agg #[(.int .u8 (0)), (.int .i64 (0)), (.int .i64 (0))]) := ⟨⟨Try.t174, by kernel_rfl, rfl, rfl, rfl⟩⟩
instance : TE Try.prog 186 2 16 (.agg #[(.int .i64 (0)), (.int .i64 (0))]) := ⟨⟨Try.t186, by kernel_rfl, rfl, rfl, rfl⟩⟩
instance : TF Try.prog 26 0 0 := TF.mk' (k := 0) Try.underlying26 rfl rfl (TS.h (P := Try.prog) (t := 22))
instance : TF Try.prog 26 1 1 := TF.mk' (k := 0) Try.underlying26 rfl rfl (TS.h (P := Try.prog) (t := 23))
instance : TF Try.prog 26 2 2 := TF.mk' (k := 0) Try.underlying26 rfl rfl (TS.h (P := Try.prog) (t := 24))
instance : TPl Try.prog 26 [(0, 1), (1, 1), (2, 1)] := ⟨_, Try.underlying26, fun w => by simp [TS.h (P := Try.prog) (t := 22), TS.h (P := Try.prog) (t := 23), TS.h (P := Try.prog) (t := 24)]⟩
instance : TF Try.prog 33 0 0 := TF.mk' (k := 0) Try.underlying33 rfl rfl (TS.h (P := Try.prog) (t := 29))
instance : TF Try.prog 33 1 1 := TF.mk' (k := 0) Try.underlying33 rfl rfl (TS.h (P := Try.prog) (t := 30))
instance : TF Try.prog 33 2 2 := TF.mk' (k := 0) Try.underlying33 rfl rfl (TS.h (P := Try.prog) (t := 31))
instance : TF Try.prog 38 0 0 := TF.mk' (k := 0) Try.underlying38 rfl rfl (TS.h (P := Try.prog) (t := 5))
instance : TF Try.prog 38 1 1 := TF.mk' (k := 0) Try.underlying38 rfl rfl (TS.h (P := Try.prog) (t := 3))
instance : TF Try.prog 38 2 2 := TF.mk' (k := 0) Try.underlying38 rfl rfl (TS.h (P := Try.prog) (t := 3))
instance : TQ Try.prog 38 [.int .u8, .int .i64, .int .i64] := ⟨⟨_, Try.underlying38, by kernel_rfl, by kernel_rfl, ⟨by decide, rfl, Try.isAgg5, Try.underlying5, ⟨by decide, rfl, Try.isAgg3, Try.underlying3, ⟨by decide, rfl, Try.isAgg3, Try.underlying3, trivial⟩⟩⟩⟩⟩
instance : TPl Try.prog 38 [(0, 1), (1, 1), (2, 1)] := ⟨_, Try.underlying38, fun w => by simp [TS.h (P := Try.prog) (t := 3), TS.h (P := Try.prog) (t := 5)]⟩
instance : TF Try.prog 49 0 0 := TF.mk' (k := 0) Try.underlying49 rfl rfl (TS.h (P := Try.prog) (t := 3))
instance : TF Try.prog 49 1 1 := TF.mk' (k := 0) Try.underlying49 rfl rfl (TS.h (P := Try.prog) (t := 3))
instance : TF Try.prog 49 2 2 := TF.mk' (k := 0) Try.underlying49 rfl rfl (TS.h (P := Try.prog) (t := 3))
instance : TF Try.prog 49 3 3 := TF.mk' (k := 0) Try.underlying49 rfl rfl (TS.h (P := Try.prog) (t := 46))
instance : TF Try.prog 49 4 4 := TF.mk' (k := 0) Try.underlying49 rfl rfl (TS.h (P := Try.prog) (t := 47))
instance : TF Try.prog 49 5 5 := TF.mk' (k := 0) Try.underlying49 rfl rfl (TS.h (P := Try.prog) (t := 44))
instance : TPl Try.prog 49 [(0, 1), (1, 1), (2, 1), (3, 1), (4, 1), (5, 1)] := ⟨_, Try.underlying49, fun w => by simp [TS.h (P := Try.prog) (t := 3), TS.h (P := Try.prog) (t := 44), TS.h (P := Try.prog) (t := 46), TS.h (P := Try.prog) (t := 47)]⟩
instance : TF Try.prog 67 0 0 := TF.mk' (k := 0) Try.underlying67 rfl rfl (TS.h (P := Try.prog) (t := 3))
instance : TF Try.prog 67 1 1 := TF.mk' (k := 0) Try.underlying67 rfl rfl (TS.h (P := Try.prog) (t := 3))
instance : TF Try.prog 67 2 2 := TF.mk' (k := 0) Try.underlying67 rfl rfl (TS.h (P := Try.prog) (t := 3))
instance : TF Try.prog 67 3 3 := TF.mk' (k := 0) Try.underlying67 rfl rfl (TS.h (P := Try.prog) (t := 44))
instance : TF Try.prog 67 4 4 := TF.mk' (k := 0) Try.underlying67 rfl rfl (TS.h (P := Try.prog) (t := 65))
instance : TPl Try.prog 67 [(0, 1), (1, 1), (2, 1), (3, 1), (4, 1)] := ⟨_, Try.underlying67, fun w => by simp [TS.h (P := Try.prog) (t := 3), TS.h (P := Try.prog) (t := 44), TS.h (P := Try.prog) (t := 65)]⟩
instance : TF Try.prog 72 0 0 := TF.mk' (k := 0) Try.underlying72 rfl rfl (TS.h (P := Try.prog) (t := 69))
instance : TF Try.prog 72 1 1 := TF.mk' (k := 0) Try.underlying72 rfl rfl (TS.h (P := Try.prog) (t := 44))
instance : TF Try.prog 72 2 2 := TF.mk' (k := 0) Try.underlying72 rfl rfl (TS.h (P := Try.prog) (t := 44))
instance : TF Try.prog 72 3 3 := TF.mk' (k := 0) Try.underlying72 rfl rfl (TS.h (P := Try.prog) (t := 44))
instance : TF Try.prog 72 4 4 := TF.mk' (k := 0) Try.underlying72 rfl rfl (TS.h (P := Try.prog) (t := 70))
instance : TPl Try.prog 72 [(0, 1), (1, 1), (2, 1), (3, 1), (4, 1)] := ⟨_, Try.underlying72, fun w => by simp [TS.h (P := Try.prog) (t := 44), TS.h (P := Try.prog) (t := 69), TS.h (P := Try.prog) (t := 70)]⟩
instance : TF Try.prog 74 0 0 := TF.mk' (k := 0) Try.underlying74 rfl rfl (TS.h (P := Try.prog) (t := 3))
instance : TF Try.prog 74 1 1 := TF.mk' (k := 0) Try.underlying74 rfl rfl (TS.h (P := Try.prog) (t := 3))
instance : TF Try.prog 74 2 2 := TF.mk' (k := 0) Try.underlying74 rfl rfl (TS.h (P := Try.prog) (t := 3))
instance : TF Try.prog 74 3 3 := TF.mk' (k := 0) Try.underlying74 rfl rfl (TS.h (P := Try.prog) (t := 44))
instance : TF Try.prog 74 4 4 := TF.mk' (k := 0) Try.underlying74 rfl rfl (TS.h (P := Try.prog) (t := 68))
instance : TF Try.prog 74 5 5 := TF.mk' (k := 4) Try.underlying74 rfl rfl (TS.h (P := Try.prog) (t := 72))
instance : TPl Try.prog 74 [(0, 1), (1, 1), (2, 1), (3, 1), (4, 1), (5, 5)] := ⟨_, Try.underlying74, fun w => by simp [TS.h (P := Try.prog) (t := 3), TS.h (P := Try.prog) (t := 44), TS.h (P := Try.prog) (t := 68), TS.h (P := Try.prog) (t := 72)]⟩
instance : TF Try.prog 76 0 0 := TF.mk' (k := 0) Try.underlying76 rfl rfl (TS.h (P := Try.prog) (t := 3))
instance : TF Try.prog 76 1 1 := TF.mk' (k := 0) Try.underlying76 rfl rfl (TS.h (P := Try.prog) (t := 3))
instance : TF Try.prog 76 2 2 := TF.mk' (k := 0) Try.underlying76 rfl rfl (TS.h (P := Try.prog) (t := 3))
instance : TQ Try.prog 76 [.int .i64, .int .i64, .int .i64] := ⟨⟨_, Try.underlying76, by kernel_rfl, by kernel_rfl, ⟨by decide, rfl, Try.isAgg3, Try.underlying3, ⟨by decide, rfl, Try.isAgg3, Try.underlying3, ⟨by decide, rfl, Try.isAgg3, Try.underlying3, trivial⟩⟩⟩⟩⟩
instance : TPl Try.prog 76 [(0, 1), (1, 1), (2, 1)] := ⟨_, Try.underlying76, fun w => by simp [TS.h (P := Try.prog) (t := 3)]⟩
instance : TF Try.prog 81 0 0 := TF.mk' (k := 0) Try.underlying81 rfl rfl (TS.h (P := Try.prog) (t := 3))
instance : TF Try.prog 81 1 1 := TF.mk' (k := 0) Try.underlying81 rfl rfl (TS.h (P := Try.prog) (t := 3))
instance : TPl Try.prog 81 [(0, 1), (1, 1)] := ⟨_, Try.underlying81, fun w => by simp [TS.h (P := Try.prog) (t := 3)]⟩
instance : TF Try.prog 85 0 0 := TF.mk' (k := 0) Try.underlying85 rfl rfl (TS.h (P := Try.prog) (t := 3))
instance : TF Try.prog 85 1 1 := TF.mk' (k := 0) Try.underlying85 rfl rfl (TS.h (P := Try.prog) (t := 3))
instance : TF Try.prog 85 2 2 := TF.mk' (k := 0) Try.underlying85 rfl rfl (TS.h (P := Try.prog) (t := 3))
instance : TF Try.prog 85 3 3 := TF.mk' (k := 0) Try.underlying85 rfl rfl (TS.h (P := Try.prog) (t := 44))
instance : TF Try.prog 85 4 4 := TF.mk' (k := 0) Try.underlying85 rfl rfl (TS.h (P := Try.prog) (t := 83))
instance : TPl Try.prog 85 [(0, 1), (1, 1), (2, 1), (3, 1), (4, 1)] := ⟨_, Try.underlying85, fun w => by simp [TS.h (P := Try.prog) (t := 3), TS.h (P := Try.prog) (t := 44), TS.h (P := Try.prog) (t := 83)]⟩
instance : TF Try.prog 86 0 0 := TF.mk' (k := 0) Try.underlying86 rfl rfl (TS.h (P := Try.prog) (t := 3))
instance : TF Try.prog 86 1 1 := TF.mk' (k := 0) Try.underlying86 rfl rfl (TS.h (P := Try.prog) (t := 3))
instance : TPl Try.prog 86 [(0, 1), (1, 1)] := ⟨_, Try.underlying86, fun w => by simp [TS.h (P := Try.prog) (t := 3)]⟩
instance : TF Try.prog 88 0 0 := TF.mk' (k := 0) Try.underlying88 rfl rfl (TS.h (P := Try.prog) (t := 3))
instance : TF Try.prog 88 1 1 := TF.mk' (k := 0) Try.underlying88 rfl rfl (TS.h (P := Try.prog) (t := 3))
instance : TF Try.prog 88 2 2 := TF.mk' (k := 0) Try.underlying88 rfl rfl (TS.h (P := Try.prog) (t := 3))
instance : TPl Try.prog 88 [(0, 1), (1, 1), (2, 1)] := ⟨_, Try.underlying88, fun w => by simp [TS.h (P := Try.prog) (t := 3)]⟩
instance : TF Try.prog 89 0 0 := TF.mk' (k := 0) Try.underlying89 rfl rfl (TS.h (P := Try.prog) (t := 3))
instance : TF Try.prog 89 1 1 := TF.mk' (k := 0) Try.underlying89 rfl rfl (TS.h (P := Try.prog) (t := 3))
instance : TF Try.prog 89 2 2 := TF.mk' (k := 0) Try.underlying89 rfl rfl (TS.h (P := Try.prog) (t := 3))
instance : TPl Try.prog 89 [(0, 1), (1, 1), (2, 1)] := ⟨_, Try.underlying89, fun w => by simp [TS.h (P := Try.prog) (t := 3)]⟩
instance : TF Try.prog 93 0 0 := TF.mk' (k := 0) Try.underlying93 rfl rfl (TS.h (P := Try.prog) (t := 3))
instance : TF Try.prog 93 1 1 := TF.mk' (k := 0) Try.underlying93 rfl rfl (TS.h (P := Try.prog) (t := 3))
instance : TF Try.prog 93 2 2 := TF.mk' (k := 0) Try.underlying93 rfl rfl (TS.h (P := Try.prog) (t := 3))
instance : TF Try.prog 93 3 3 := TF.mk' (k := 0) Try.underlying93 rfl rfl (TS.h (P := Try.prog) (t := 90))
instance : TF Try.prog 93 4 4 := TF.mk' (k := 0) Try.underlying93 rfl rfl (TS.h (P := Try.prog) (t := 91))
instance : TF Try.prog 93 5 5 := TF.mk' (k := 0) Try.underlying93 rfl rfl (TS.h (P := Try.prog) (t := 44))
instance : TPl Try.prog 93 [(0, 1), (1, 1), (2, 1), (3, 1), (4, 1), (5, 1)] := ⟨_, Try.underlying93, fun w => by simp [TS.h (P := Try.prog) (t := 3), TS.h (P := Try.prog) (t := 44), TS.h (P := Try.prog) (t := 90), TS.h (P := Try.prog) (t := 91)]⟩
instance : TF Try.prog 95 0 0 := TF.mk' (k := 0) Try.underlying95 rfl rfl (TS.h (P := Try.prog) (t := 3))
instance : TF Try.prog 95 1 1 := TF.mk' (k := 0) Try.underlying95 rfl rfl (TS.h (P := Try.prog) (t := 3))
instance : TQ Try.prog 95 [.int .i64, .int .i64] := ⟨⟨_, Try.underlying95, by kernel_rfl, by kernel_rfl, ⟨by decide, rfl, Try.isAgg3, Try.underlying3, ⟨by decide, rfl, Try.isAgg3, Try.underlying3, trivial⟩⟩⟩⟩
instance : TPl Try.prog 95 [(0, 1), (1, 1)] := ⟨_, Try.underlying95, fun w => by simp [TS.h (P := Try.prog) (t := 3)]⟩
instance : TF Try.prog 96 0 0 := TF.mk' (k := 0) Try.underlying96 rfl rfl (TS.h (P := Try.prog) (t := 3))
instance : TF Try.prog 96 1 1 := TF.mk' (k := 0) Try.underlying96 rfl rfl (TS.h (P := Try.prog) (t := 3))
instance : TQ Try.prog 96 [.int .i64, .int .i64] := ⟨⟨_, Try.underlying96, by kernel_rfl, by kernel_rfl, ⟨by decide, rfl, Try.isAgg3, Try.underlying3, ⟨by decide, rfl, Try.isAgg3, Try.underlying3, trivial⟩⟩⟩⟩
instance : TPl Try.prog 96 [(0, 1), (1, 1)] := ⟨_, Try.underlying96, fun w => by simp [TS.h (P := Try.prog) (t := 3)]⟩
instance : TF Try.prog 98 0 0 := TF.mk' (k := 0) Try.underlying98 rfl rfl (TS.h (P := Try.prog) (t := 3))
instance : TF Try.prog 98 1 1 := TF.mk' (k := 0) Try.underlying98 rfl rfl (TS.h (P := Try.prog) (t := 3))
instance : TPl Try.prog 98 [(0, 1), (1, 1)] := ⟨_, Try.underlying98, fun w => by simp [TS.h (P := Try.prog) (t := 3)]⟩
instance : TF Try.prog 99 0 0 := TF.mk' (k := 0) Try.underlying99 rfl rfl (TS.h (P := Try.prog) (t := 3))
instance : TF Try.prog 99 1 1 := TF.mk' (k := 0) Try.underlying99 rfl rfl (TS.h (P := Try.prog) (t := 3))
instance : TPl Try.prog 99 [(0, 1), (1, 1)] := ⟨_, Try.underlying99, fun w => by simp [TS.h (P := Try.prog) (t := 3)]⟩
instance : TF Try.prog 104 0 0 := TF.mk' (k := 0) Try.underlying104 rfl rfl (TS.h (P := Try.prog) (t := 69))
instance : TF Try.prog 104 1 1 := TF.mk' (k := 0) Try.underlying104 rfl rfl (TS.h (P := Try.prog) (t := 44))
instance : TF Try.prog 104 2 2 := TF.mk' (k := 0) Try.underlying104 rfl rfl (TS.h (P := Try.prog) (t := 44))
instance : TF Try.prog 104 3 3 := TF.mk' (k := 0) Try.underlying104 rfl rfl (TS.h (P := Try.prog) (t := 44))
instance : TF Try.prog 104 4 4 := TF.mk' (k := 0) Try.underlying104 rfl rfl (TS.h (P := Try.prog) (t := 102))
instance : TPl Try.prog 104 [(0, 1), (1, 1), (2, 1), (3, 1), (4, 1)] := ⟨_, Try.underlying104, fun w => by simp [TS.h (P := Try.prog) (t := 102), TS.h (P := Try.prog) (t := 44), TS.h (P := Try.prog) (t := 69)]⟩
instance : TF Try.prog 106 0 0 := TF.mk' (k := 0) Try.underlying106 rfl rfl (TS.h (P := Try.prog) (t := 3))
instance : TF Try.prog 106 1 1 := TF.mk' (k := 0) Try.underlying106 rfl rfl (TS.h (P := Try.prog) (t := 3))
instance : TF Try.prog 106 2 2 := TF.mk' (k := 0) Try.underlying106 rfl rfl (TS.h (P := Try.prog) (t := 3))
instance : TF Try.prog 106 3 3 := TF.mk' (k := 0) Try.underlying106 rfl rfl (TS.h (P := Try.prog) (t := 44))
instance : TF Try.prog 106 4 4 := TF.mk' (k := 0) Try.underlying106 rfl rfl (TS.h (P := Try.prog) (t := 101))
instance : TF Try.prog 106 5 5 := TF.mk' (k := 4) Try.underlying106 rfl rfl (TS.h (P := Try.prog) (t := 104))
instance : TPl Try.prog 106 [(0, 1), (1, 1), (2, 1), (3, 1), (4, 1), (5, 5)] := ⟨_, Try.underlying106, fun w => by simp [TS.h (P := Try.prog) (t := 101), TS.h (P := Try.prog) (t := 104), TS.h (P := Try.prog) (t := 3), TS.h (P := Try.prog) (t := 44)]⟩
instance : TF Try.prog 127 0 0 := TF.mk' (k := 0) Try.underlying127 rfl rfl (TS.h (P := Try.prog) (t := 112))
instance : TF Try.prog 127 1 1 := TF.mk' (k := 0) Try.underlying127 rfl rfl (TS.h (P := Try.prog) (t := 112))
instance : TF Try.prog 127 2 2 := TF.mk' (k := 0) Try.underlying127 rfl rfl (TS.h (P := Try.prog) (t := 125))
instance : TPl Try.prog 127 [(0, 1), (1, 1), (2, 1)] := ⟨_, Try.underlying127, fun w => by simp [TS.h (P := Try.prog) (t := 112), TS.h (P := Try.prog) (t := 125)]⟩
instance : TF Try.prog 136 0 0 := TF.mk' (k := 0) Try.underlying136 rfl rfl (TS.h (P := Try.prog) (t := 133))
instance : TF Try.prog 136 1 1 := TF.mk' (k := 0) Try.underlying136 rfl rfl (TS.h (P := Try.prog) (t := 112))
instance : TF Try.prog 136 2 2 := TF.mk' (k := 0) Try.underlying136 rfl rfl (TS.h (P := Try.prog) (t := 134))
instance : TF Try.prog 136 3 3 := TF.mk' (k := 0) Try.underlying136 rfl rfl (TS.h (P := Try.prog) (t := 112))
instance : TF Try.prog 136 4 4 := TF.mk' (k := 0) Try.underlying136 rfl rfl (TS.h (P := Try.prog) (t := 112))
instance : TPl Try.prog 136 [(0, 1), (1, 1), (2, 1), (3, 1), (4, 1)] := ⟨_, Try.underlying136, fun w => by simp [TS.h (P := Try.prog) (t := 112), TS.h (P := Try.prog) (t := 133), TS.h (P := Try.prog) (t := 134)]⟩
instance : TF Try.prog 139 0 0 := TF.mk' (k := 0) Try.underlying139 rfl rfl (TS.h (P := Try.prog) (t := 3))
instance : TF Try.prog 139 1 1 := TF.mk' (k := 0) Try.underlying139 rfl rfl (TS.h (P := Try.prog) (t := 3))
instance : TF Try.prog 139 2 2 := TF.mk' (k := 0) Try.underlying139 rfl rfl (TS.h (P := Try.prog) (t := 3))
instance : TPl Try.prog 139 [(0, 1), (1, 1), (2, 1)] := ⟨_, Try.underlying139, fun w => by simp [TS.h (P := Try.prog) (t := 3)]⟩
instance : TF Try.prog 163 0 0 := TF.mk' (k := 0) Try.underlying163 rfl rfl (TS.h (P := Try.prog) (t := 3))
instance : TF Try.prog 163 1 1 := TF.mk' (k := 0) Try.underlying163 rfl rfl (TS.h (P := Try.prog) (t := 3))
instance : TPl Try.prog 163 [(0, 1), (1, 1)] := ⟨_, Try.underlying163, fun w => by simp [TS.h (P := Try.prog) (t := 3)]⟩
instance : TF Try.prog 167 0 0 := TF.mk' (k := 0) Try.underlying167 rfl rfl (TS.h (P := Try.prog) (t := 3))
instance : TF Try.prog 167 1 1 := TF.mk' (k := 0) Try.underlying167 rfl rfl (TS.h (P := Try.prog) (t := 3))
instance : TF Try.prog 167 2 2 := TF.mk' (k := 0) Try.underlying167 rfl rfl (TS.h (P := Try.prog) (t := 3))
instance : TF Try.prog 167 3 3 := TF.mk' (k := 0) Try.underlying167 rfl rfl (TS.h (P := Try.prog) (t := 3))
instance : TPl Try.prog 167 [(0, 1), (1, 1), (2, 1), (3, 1)] := ⟨_, Try.underlying167, fun w => by simp [TS.h (P := Try.prog) (t := 3)]⟩
instance : TF Try.prog 173 0 0 := TF.mk' (k := 0) Try.underlying173 rfl rfl (TS.h (P := Try.prog) (t := 5))
instance : TF Try.prog 173 1 1 := TF.mk' (k := 0) Try.underlying173 rfl rfl (TS.h (P := Try.prog) (t := 3))
instance : TF Try.prog 173 2 2 := TF.mk' (k := 0) Try.underlying173 rfl rfl (TS.h (P := Try.prog) (t := 3))
instance : TPl Try.prog 173 [(0, 1), (1, 1), (2, 1)] := ⟨_, Try.underlying173, fun w => by simp [TS.h (P := Try.prog) (t := 3), TS.h (P := Try.prog) (t := 5)]⟩
instance : TF Try.prog 174 0 0 := TF.mk' (k := 0) Try.underlying174 rfl rfl (TS.h (P := Try.prog) (t := 5))
instance : TF Try.prog 174 1 1 := TF.mk' (k := 0) Try.underlying174 rfl rfl (TS.h (P := Try.prog) (t := 3))
instance : TF Try.prog 174 2 2 := TF.mk' (k := 0) Try.underlying174 rfl rfl (TS.h (P := Try.prog) (t := 3))
instance : TPl Try.prog 174 [(0, 1), (1, 1), (2, 1)] := ⟨_, Try.underlying174, fun w => by simp [TS.h (P := Try.prog) (t := 3), TS.h (P := Try.prog) (t := 5)]⟩
instance : TF Try.prog 186 0 0 := TF.mk' (k := 0) Try.underlying186 rfl rfl (TS.h (P := Try.prog) (t := 3))
instance : TF Try.prog 186 1 1 := TF.mk' (k := 0) Try.underlying186 rfl rfl (TS.h (P := Try.prog) (t := 3))
instance : TPl Try.prog 186 [(0, 1), (1, 1)] := ⟨_, Try.underlying186, fun w => by simp [TS.h (P := Try.prog) (t := 3)]⟩
instance : TF Try.prog 192 0 0 := TF.mk' (k := 4) Try.underlying192 rfl rfl (TS.h (P := Try.prog) (t := 72))
instance : TF Try.prog 192 1 5 := TF.mk' (k := 0) Try.underlying192 rfl rfl (TS.h (P := Try.prog) (t := 44))
instance : TF Try.prog 192 2 6 := TF.mk' (k := 0) Try.underlying192 rfl rfl (TS.h (P := Try.prog) (t := 44))
instance : TF Try.prog 192 3 7 := TF.mk' (k := 0) Try.underlying192 rfl rfl (TS.h (P := Try.prog) (t := 3))
instance : TPl Try.prog 192 [(0, 5), (5, 1), (6, 1), (7, 1)] := ⟨_, Try.underlying192, fun w => by simp [TS.h (P := Try.prog) (t := 3), TS.h (P := Try.prog) (t := 44), TS.h (P := Try.prog) (t := 72)]⟩
instance : TC Try.prog 6 Try.f6 := ⟨Try.func6, ⟨_, rfl⟩, by kernel_rfl⟩
instance : TC Try.prog 7 Try.f7 := ⟨Try.func7, ⟨_, rfl⟩, by kernel_rfl⟩
instance : TC Try.prog 8 Try.f8 := ⟨Try.func8, ⟨_, rfl⟩, by kernel_rfl⟩
instance : TC Try.prog 9 Try.f9 := ⟨Try.func9, ⟨_, rfl⟩, by kernel_rfl⟩
instance : TC Try.prog 11 Try.f11 := ⟨Try.func11, ⟨_, rfl⟩, by kernel_rfl⟩
instance : TC Try.prog 12 Try.f12 := ⟨Try.func12, ⟨_, rfl⟩, by kernel_rfl⟩
instance : TC Try.prog 13 Try.f13 := ⟨Try.func13, ⟨_, rfl⟩, by kernel_rfl⟩
instance : TC Try.prog 14 Try.f14 := ⟨Try.func14, ⟨_, rfl⟩, by kernel_rfl⟩
instance : TC Try.prog 15 Try.f15 := ⟨Try.func15, ⟨_, rfl⟩, by kernel_rfl⟩
instance : TC Try.prog 16 Try.f16 := ⟨Try.func16, ⟨_, rfl⟩, by kernel_rfl⟩
instance : TC Try.prog 17 Try.f17 := ⟨Try.func17, ⟨_, rfl⟩, by kernel_rfl⟩
instance : TC Try.prog 18 Try.f18 := ⟨Try.func18, ⟨_, rfl⟩, by kernel_rfl⟩
instance : TC Try.prog 19 Try.f19 := ⟨Try.func19, ⟨_, rfl⟩, by kernel_rfl⟩
instance : TC Try.prog 20 Try.f20 := ⟨Try.func20, ⟨_, rfl⟩, by kernel_rfl⟩
instance : TC Try.prog 21 Try.f21 := ⟨Try.func21, ⟨_, rfl⟩, by kernel_rfl⟩
instance : TC Try.prog 22 Try.f22 := ⟨Try.func22, ⟨_, rfl⟩, by kernel_rfl⟩
instance : TC Try.prog 23 Try.f23 := ⟨Try.func23, ⟨_, rfl⟩, by kernel_rfl⟩
instance : TC Try.prog 24 Try.f24 := ⟨Try.func24, ⟨_, rfl⟩, by kernel_rfl⟩
instance : TC Try.prog 25 Try.f25 := ⟨Try.func25, ⟨_, rfl⟩, by kernel_rfl⟩
instance : TC Try.prog 26 Try.f26 := ⟨Try.func26, ⟨_, rfl⟩, by kernel_rfl⟩
instance : TC Try.prog 27 Try.f27 := ⟨Try.func27, ⟨_, rfl⟩, by kernel_rfl⟩
instance : TC Try.prog 28 Try.f28 := ⟨Try.func28, ⟨_, rfl⟩, by kernel_rfl⟩
instance : TC Try.prog 29 Try.f29 := ⟨Try.func29, ⟨_, rfl⟩, by kernel_rfl⟩
instance : TC Try.prog 30 Try.f30 := ⟨Try.func30, ⟨_, rfl⟩, by kernel_rfl⟩
instance : TC Try.prog 31 Try.f31 := ⟨Try.func31, ⟨_, rfl⟩, by kernel_rfl⟩
instance : TC Try.prog 32 Try.f32 := ⟨Try.func32, ⟨_, rfl⟩, by kernel_rfl⟩
instance : TC Try.prog 33 Try.f33 := ⟨Try.func33, ⟨_, rfl⟩, by kernel_rfl⟩
instance : TC Try.prog 34 Try.f34 := ⟨Try.func34, ⟨_, rfl⟩, by kernel_rfl⟩
instance : TC Try.prog 35 Try.f35 := ⟨Try.func35, ⟨_, rfl⟩, by kernel_rfl⟩
instance : TC Try.prog 36 Try.f36 := ⟨Try.func36, ⟨_, rfl⟩, by kernel_rfl⟩
instance : TC Try.prog 37 Try.f37 := ⟨Try.func37, ⟨_, rfl⟩, by kernel_rfl⟩
instance : TC Try.prog 38 Try.f38 := ⟨Try.func38, ⟨_, rfl⟩, by kernel_rfl⟩
instance : TC Try.prog 39 Try.f39 := ⟨Try.func39, ⟨_, rfl⟩, by kernel_rfl⟩
instance : TC Try.prog 40 Try.f40 := ⟨Try.func40, ⟨_, rfl⟩, by kernel_rfl⟩
instance : TC Try.prog 41 Try.f41 := ⟨Try.func41, ⟨_, rfl⟩, by kernel_rfl⟩
instance : TC Try.prog 42 Try.f42 := ⟨Try.func42, ⟨_, rfl⟩, by kernel_rfl⟩
instance : TC Try.prog 43 Try.f43 := ⟨Try.func43, ⟨_, rfl⟩, by kernel_rfl⟩
instance : TC Try.prog 44 Try.f44 := ⟨Try.func44, ⟨_, rfl⟩, by kernel_rfl⟩
instance : TC Try.prog 45 Try.f45 := ⟨Try.func45, ⟨_, rfl⟩, by kernel_rfl⟩
instance : TC Try.prog 46 Try.f46 := ⟨Try.func46, ⟨_, rfl⟩, by kernel_rfl⟩
instance : TC Try.prog 47 Try.f47 := ⟨Try.func47, ⟨_, rfl⟩, by kernel_rfl⟩
instance : TC Try.prog 49 Try.f49 := ⟨Try.func49, ⟨_, rfl⟩, by kernel_rfl⟩
instance : TC Try.prog 50 Try.f50 := ⟨Try.func50, ⟨_, rfl⟩, by kernel_rfl⟩
instance : TC Try.prog 51 Try.f51 := ⟨Try.func51, ⟨_, rfl⟩, by kernel_rfl⟩
instance : TC Try.prog 52 Try.f52 := ⟨Try.func52, ⟨_, rfl⟩, by kernel_rfl⟩
instance : TC Try.prog 53 Try.f53 := ⟨Try.func53, ⟨_, rfl⟩, by kernel_rfl⟩
instance : TC Try.prog 54 Try.f54 := ⟨Try.func54, ⟨_, rfl⟩, by kernel_rfl⟩
instance : TC Try.prog 55 Try.f55 := ⟨Try.func55, ⟨_, rfl⟩, by kernel_rfl⟩
instance : TC Try.prog 56 Try.f56 := ⟨Try.func56, ⟨_, rfl⟩, by kernel_rfl⟩
instance : TC Try.prog 57 Try.f57 := ⟨Try.func57, ⟨_, rfl⟩, by kernel_rfl⟩
instance : TC Try.prog 58 Try.f58 := ⟨Try.func58, ⟨_, rfl⟩, by kernel_rfl⟩
instance : TC Try.prog 59 Try.f59 := ⟨Try.func59, ⟨_, rfl⟩, by kernel_rfl⟩
instance : TC Try.prog 60 Try.f60 := ⟨Try.func60, ⟨_, rfl⟩, by kernel_rfl⟩
instance : TC Try.prog 61 Try.f61 := ⟨Try.func61, ⟨_, rfl⟩, by kernel_rfl⟩
instance : TC Try.prog 62 Try.f62 := ⟨Try.func62, ⟨_, rfl⟩, by kernel_rfl⟩
instance : TC Try.prog 63 Try.f63 := ⟨Try.func63, ⟨_, rfl⟩, by kernel_rfl⟩
instance : TC Try.prog 65 Try.f65 := ⟨Try.func65, ⟨_, rfl⟩, by kernel_rfl⟩
instance : TC Try.prog 67 Try.f67 := ⟨Try.func67, ⟨_, rfl⟩, by kernel_rfl⟩
instance : TC Try.prog 68 Try.f68 := ⟨Try.func68, ⟨_, rfl⟩, by kernel_rfl⟩
instance : TC Try.prog 69 Try.f69 := ⟨Try.func69, ⟨_, rfl⟩, by kernel_rfl⟩
instance : TC Try.prog 70 Try.f70 := ⟨Try.func70, ⟨_, rfl⟩, by kernel_rfl⟩
instance : TC Try.prog 71 Try.f71 := ⟨Try.func71, ⟨_, rfl⟩, by kernel_rfl⟩
instance : TC Try.prog 72 Try.f72 := ⟨Try.func72, ⟨_, rfl⟩, by kernel_rfl⟩
instance : TC Try.prog 73 Try.f73 := ⟨Try.func73, ⟨_, rfl⟩, by kernel_rfl⟩
end Go.Proofs.Ytdahckhlfldkkaa
namespace Go.Proofs.Ytdahckhlfldkkaa
open Go Go.Sx Go.RowKit
attribute [local irreducible] WL WC WQ St Exit.then Exit.inBlock bodyPost roundPost zc1 YR RG BM Calls B
set_option maxHeartbeats 1000000 in
theorem zS3 {va vb : Value} {xs ys : List Int} (w : World) (ha : SV w 1 encI va xs) (hb : SV w 1 encI vb ys) : Calls Try.prog 18 #[va, vb] w fun e w' => e = .returned (.bool (B (xs = ys))) ∧ Below w.heap.size w w' := by
  obtain ⟨a0, ca, rfl, hca, ha⟩ := ha.open
  obtain ⟨b0, cb, rfl, hcb, hb⟩ := hb.open
  by_cases hl : xs.length = ys.length
  case neg =>
    refine za8 Try.func18 rfl Try.ntmps18 rfl (Rep.start w) ?_
    repeat' (first | ((first | apply w9 | apply y8); exact rfl; exact rfl) | ((first | apply p3 | apply l8); exact rfl; exact rfl; exact rfl) | (apply o9; infer_instance; exact rfl; exact rfl) | ((first | apply s9 | apply x9 | apply z8 | apply s7 | apply s8 | apply w4 | apply z9 | apply w5)) | (apply v8; exact rfl; exact tT_) | ((first | apply w6 | apply z6 | apply z0 | apply p5 | apply y0 | apply z7)))
    apply p8; apply zb0 Try.results18; exact rV_; intro w' hw
    rw [zc2 (fun h => hl (by rw [h]))]
    exact ⟨rfl, hw.below (by simp)⟩
  refine za8 Try.func18 rfl Try.ntmps18 rfl (Rep.start w) ?_
  repeat' (first | ((first | apply w9 | apply y8); exact rfl; exact rfl) | ((first | apply p3 | apply l8); exact rfl; exact rfl; exact rfl) | (apply o9; infer_instance; exact rfl; exact rfl) | ((first | apply s9 | apply x9 | apply z8 | apply s7 | apply s8 | apply w4 | apply z9 | apply w5)) | (apply v9; exact rfl; exact fF_) | ((first | apply w6 | apply z6 | apply z0 | apply p5 | apply y0 | apply z7)))
  apply j9 (σ := Nat) (Fs := fun i => [(5, .int .i64 i), (0, .slice a0 xs.length ca), (1, .slice b0 ys.length cb), (4, .bool false)])
    (Ls := fun i => []) (I := fun i => i ≤ xs.length ∧ xs.take i = ys.take i) (μ := fun i => xs.length - i) (s0 := 0)
  · exact ⟨Nat.zero_le _, by simp⟩
  · exact fS_
  · exact hS_
  rintro i ⟨hi, heq⟩
  by_cases hlt : i < xs.length
  · obtain ⟨x, hx⟩ : ∃ x, xs[i]? = some x := ⟨_, List.getElem?_eq_getElem hlt⟩
    obtain ⟨y, hy⟩ : ∃ y, ys[i]? = some y := ⟨_, List.getElem?_eq_getElem (by omega)⟩
    obtain ⟨b, off, c, e, fz, rfl, hk, hp⟩ := ha (by omega)
    obtain ⟨b', off', c', e', fz', rfl, hk', hp'⟩ := hb (by omega)
    have h1 := hp.one hx rfl
    have h2 := hp'.one hy rfl
    by_cases hxy : x = y
    · repeat' (first | ((first | apply w9 | apply y8); exact rfl; exact rfl) | ((first | apply p3 | apply l8); exact rfl; exact rfl; exact rfl) | (apply j0; exact rfl; exact rfl; exact rfl; (constructor <;> omega)) | (apply o9; infer_instance; exact rfl; exact rfl) | ((first | apply s9 | apply x9 | apply z8 | apply s7 | apply s8 | apply w4 | apply z9 | apply w5)) | (apply v8; exact rfl; exact tT_) | (apply v9; exact rfl; exact fF_) | ((first | apply w6 | apply z6 | apply z0 | apply p5 | apply y0 | apply z7)) | ((apply p6 (id := 6) []); kernel_rfl; kernel_rfl) | (apply za6; try simp only [za9, List.cons_append, List.nil_append]) | ((first | apply i9 | apply n9); exact rfl; exact rfl) | (apply m0; first | refine k8 (h := ?_) | refine p7 (h := ?_) | refine m6 (h := ?_) | refine d8 (h := ?_) | refine d7 (h := ?_)) | ((first | apply ze6 | apply zr1); exact rfl; exact rfl; exact rfl) | (apply zc3; infer_instance; infer_instance; exact rfl; exact rfl; (first | exact rfl | omega); exact rfl; (first | assumption | omega | decide)))
      refine o0 (i + 1) ⟨by omega, ?_⟩ (by omega) ?_ ?_
      · rw [List.take_add_one, List.take_add_one, heq, hx, hy, hxy]
      · exact fS_
      · exact hS_
    · repeat' (first | ((first | apply w9 | apply y8); exact rfl; exact rfl) | ((first | apply p3 | apply l8); exact rfl; exact rfl; exact rfl) | (apply o9; infer_instance; exact rfl; exact rfl) | ((first | apply s9 | apply x9 | apply z8 | apply s7 | apply s8 | apply w4 | apply z9 | apply w5)) | (apply v8; exact rfl; exact tT_) | ((first | apply w6 | apply z6 | apply z0 | apply p5 | apply y0 | apply z7)) | ((apply p6 (id := 6) []); kernel_rfl; kernel_rfl) | (apply za6; try simp only [za9, List.cons_append, List.nil_append]) | ((first | apply i9 | apply n9); exact rfl; exact rfl) | (apply m0; first | refine k8 (h := ?_) | refine p7 (h := ?_) | refine m6 (h := ?_) | refine d8 (h := ?_) | refine d7 (h := ?_)) | ((first | apply ze6 | apply zr1); exact rfl; exact rfl; exact rfl) | (apply zc3; infer_instance; infer_instance; exact rfl; exact rfl; (first | exact rfl | omega); exact rfl; (first | assumption | omega | decide)))
      apply p8; apply zb0 Try.results18; exact rV_; intro w' hw
      rw [zc2 (fun h => hxy (by rw [h, hy] at hx; cases hx; rfl))]
      exact ⟨rfl, hw.below (by simp)⟩
  · repeat' (first | ((first | apply w9 | apply y8); exact rfl; exact rfl) | ((first | apply p3 | apply l8); exact rfl; exact rfl; exact rfl) | (apply o9; infer_instance; exact rfl; exact rfl) | ((first | apply s9 | apply x9 | apply z8 | apply s7 | apply s8 | apply w4 | apply z9 | apply w5)) | (apply v9; exact rfl; exact fF_) | ((first | apply w6 | apply z6 | apply z0 | apply p5 | apply y0 | apply z7)))
    apply p8; apply zb0 Try.results18; exact rV_; intro w' hw
    have : xs = ys := by rw [List.take_of_length_le (by omega), List.take_of_length_le (by omega)] at heq; exact heq
    rw [zj0 this]
    exact ⟨rfl, hw.below (by simp)⟩
theorem zP3 {va : Value} {xs : List Int} (w : World) (ha : SV w 1 encI va xs) (hn : xs.length ≤ 1000000000) : Calls Try.prog 21 #[va] w fun e w' => ∃ v N, e = .returned v ∧ OW 3 1 encI v xs N ∧ Rep w w' N ∧ ∀ x ∈ N, x.own = true := by
  refine zd2 Try.func21 rfl Try.ntmps21 rfl (Rep.start w) ?_
  have h0 : OW 3 1 encI (.slice none 0 0) [] [] := OW.nil
  repeat' (first | (apply yw9 (enc := encI); infer_instance; infer_instance; infer_instance; exact rfl; exact j8; exact zg4; exact rfl; exact rfl; exact rfl; assumption; exact rL_; (exact fun w hw => (ha.keep hw (by exact aO_))); (first | decide | (constructor <;> (try simp only [List.length_cons, List.length_nil]) <;> omega) | (constructor <;> simp <;> omega)); intro _ _ _) | ((first | apply w9 | apply y8); exact rfl; exact rfl) | ((first | apply s9 | apply x9 | apply z8 | apply s7 | apply s8 | apply w4 | apply z9 | apply w5)) | ((first | apply w6 | apply z6 | apply z0 | apply p5 | apply y0 | apply z7)))
  rename_i hN
  apply p8; apply zb0 Try.results21; exact rV_; intro w' hw
  exact ⟨_, _, rfl, by simpa using hN, by simpa using hw, hN.own⟩
end Go.Proofs.Ytdahckhlfldkkaa
namespace Go.Proofs.Ytdahckhlfldkkaa
open Go Go.Sx Go.RowKit
@[reducible] def ptr (b : Nat) : Value := .pointer (some ⟨b, 0, none⟩)
@[reducible] def slc (b n : Nat) : Value := .slice (some ⟨b, 0, none⟩) n n
theorem take_snoc {α : Type} {l : List α} {i : Nat} {x : α} (h : l[i]? = some x) : l.take (i + 1) = l.take i ++ [x] := by rw [List.take_add_one, h]; rfl
theorem drop_at {α : Type} {l : List α} {i : Nat} {x : α} (h : l[i]? = some x) : l.drop i = x :: l.drop (i + 1) := by
  obtain ⟨hlt, rfl⟩ := List.getElem?_eq_some_iff.1 h
  exact (List.getElem_cons_drop (h := hlt)).symm
theorem zh0 {α : Type} {p : α → Prop} {l : List α} {i : Nat} {x : α} (h : l[i]? = some x) (hp : ∀ y ∈ l.take i, p y) (hx : p x) : ∀ y ∈ l.take (i + 1), p y := by
  rw [take_snoc h]
  intro y hy
  rcases List.mem_append.1 hy with h | h
  · exact hp y h
  · simp at h; subst h; exact hx
theorem yt5 (n : Nat) : (List.replicate n [Value.int .i64 0]).flatten = (List.replicate n (0 : Int)).flatMap encI ++ [] := by
  rw [List.append_nil]
  induction n with
  | zero => rfl
  | succ n ih => rw [List.replicate_succ, List.replicate_succ, List.flatten_cons, List.flatMap_cons, ih]; rfl
end Go.Proofs.Ytdahckhlfldkkaa
namespace Go.Sx.Seq
structure Stop where
  id : Int
  vol : Int
deriving DecidableEq
structure Seat where
  stop : Int
  vol : Int
  first : Int
  second : Int
deriving DecidableEq
structure Plan where
  caps : List Int
  seats : List Seat
  first : List Int
  second : List Int
deriving DecidableEq
def Plan.zero : Plan := ⟨[], [], [], []⟩
def zD5 (caps : List Int) : Prop := (1 ≤ caps.length ∧ caps.length ≤ 64) ∧ ∀ c ∈ caps, 1 ≤ c ∧ c ≤ 100000
instance (caps : List Int) : Decidable (zD5 caps) := by unfold zD5; infer_instance
def Stop.ok (s : Stop) : Prop := (1 ≤ s.id ∧ s.id ≤ 999999) ∧ (1 ≤ s.vol ∧ s.vol ≤ 10000)
instance (s : Stop) : Decidable s.ok := by unfold Stop.ok; infer_instance
def ym2 : List Int → Nat → List Stop → Option Nat
  | _, _, [] => none
  | met, i, s :: r => if s.ok ∧ s.id ∉ met then ym2 (met ++ [s.id]) (i + 1) r else some i
def yK0 (met : List Int) (l : List Stop) : Prop := (∀ s ∈ l, s.ok) ∧ (l.map Stop.id).Nodup ∧ ∀ s ∈ l, s.id ∉ met
def zm3 (l : List Int) (k : Nat) (v : Int) : List Int := l.set k (l.getD k 0 + v)
theorem zl8 (l : List Int) (k : Nat) (v : Int) : (zm3 l k v).length = l.length := by simp [zm3]
def zB7 (g : Seat → Int) (n : Nat) (seats : List Seat) : List Int := seats.foldl (fun l s => zm3 l (g s).toNat s.vol) (List.replicate n 0)
def yI6 (g : Seat → Int) (k : Nat) : List Seat → Int
  | [] => 0
  | s :: r => (if (g s).toNat = k then s.vol else 0) + yI6 g k r
def yx7 : Nat → List Int → List Int → List Int → Option Nat
  | i, c :: cs, f :: fs, s :: ss => if c < f ∨ c < s then some i else yx7 (i + 1) cs fs ss
  | _, _, _, _ => none
def place (limit : Nat) (v : Int) : Nat → Nat → Int → List Int → Option (Nat × Nat × Int × List Int)
  | _, _, _, [] => none
  | cur, held, load, c :: cs => if held < limit ∧ load + v ≤ c then some (cur, held, load, c :: cs) else place limit v (cur + 1) 0 0 cs
def yt8 (limit : Nat) : List Stop → Nat → Nat → Int → List Int → List Seat
  | [], _, _, _, _ => []
  | s :: r, cur, held, load, cs => match place limit s.vol cur held load cs with
    | none => []
    | some (cur', held', load', cs') => ⟨s.id, s.vol, held', cur'⟩ :: yt8 limit r cur' (held' + 1) (load' + s.vol) cs'
def yM2 (limit : Nat) (stops : List Stop) (caps : List Int) : List Seat := yt8 limit stops 0 0 0 caps
def yj7 (stops : List Stop) (caps : List Int) : Nat → Plan × Int
  | 0 => (.zero, 4)
  | L + 1 =>
    let seats := yM2 (L + 1) stops caps
    if seats.length < stops.length then yj7 stops caps L else
    match yx7 0 caps (zB7 Seat.first caps.length seats) (zB7 Seat.second caps.length seats) with
    | none => (⟨caps, seats, zB7 Seat.first caps.length seats, zB7 Seat.second caps.length seats⟩, 0)
    | some _ => yj7 stops caps L
def yM6 (stops : List Stop) (caps : List Int) : Plan × Int :=
  if ¬ zD5 caps then (.zero, 280) else
  if 1000 < stops.length then (.zero, 5) else
  match ym2 [] 0 stops with
  | some _ => (.zero, 281)
  | none =>
    if stops = [] then (⟨caps, [], List.replicate caps.length 0, List.replicate caps.length 0⟩, 0) else
    yj7 stops caps (min caps.length stops.length)
def yI7 (n : Nat) : Option Seat → Nat → List Seat → Option Nat
  | _, _, [] => none
  | p, i, s :: r =>
    if ¬ ((0 ≤ s.first ∧ s.first < n) ∧ (0 ≤ s.second ∧ s.second < n)) then some i else
    match p with
    | none => yI7 n (some s) (i + 1) r
    | some q => if s.second < q.second ∨ (s.second = q.second ∧ s.first ≤ q.first) then some i else yI7 n (some s) (i + 1) r
def Seat.asStop (s : Seat) : Stop := ⟨s.stop, s.vol⟩
def yG7 : Nat → List Int → List Int → List Int → List Int → Option Nat
  | i, f :: fs, s :: ss, f' :: fs', s' :: ss' => if f ≠ f' ∨ s ≠ s' then some i else yG7 (i + 1) fs ss fs' ss'
  | _, _, _, _, _ => none
def yu4 (p : Plan) : Nat × Int :=
  if ¬ zD5 p.caps then (0, 280) else
  if 1000 < p.seats.length then (0, 5) else
  match ym2 [] 0 (p.seats.map Seat.asStop) with
  | some i => (i, 281)
  | none =>
    match yI7 p.caps.length none 0 p.seats with
    | some i => (i, 282)
    | none =>
      if p.first.length ≠ p.caps.length ∨ p.second.length ≠ p.caps.length then (0, 283) else
      match yG7 0 p.first p.second (zB7 Seat.first p.caps.length p.seats) (zB7 Seat.second p.caps.length p.seats) with
      | some i => (i, 283)
      | none =>
        match yx7 0 p.caps (zB7 Seat.first p.caps.length p.seats) (zB7 Seat.second p.caps.length p.seats) with
        | some i => (i, 4)
        | none => (0, 0)
def yG8 (l : List Seat) (stop : Int) : Option Seat := l.find? (fun s => s.stop == stop)
def yv1 (seats : List Seat) : List Int → List Int → Int
  | _, [] => 0
  | fed, x :: r => match yG8 seats x with
    | none => 6
    | some s => if s.vol ≤ fed.count x then 4 else yv1 seats (fed ++ [x]) r
def yH1 (n : Nat) (key : Nat → Nat) (fed : List Nat) : List (List Nat) := (List.range n).map fun k => fed.filter fun i => key i = k
structure Run where
  first : List (List Nat)
  second : List (List Nat)
  order : List Nat
deriving DecidableEq
def Run.zero : Run := ⟨[], [], []⟩
def yK6 (seats : List Seat) (items : List Int) (g : Seat → Int) (i : Nat) : Nat := (((items[i]?).bind (yG8 seats)).elim 0 g).toNat
def zd0 (p : Plan) (items : List Int) : Run :=
  let first := yH1 p.caps.length (yK6 p.seats items Seat.first) (List.range items.length)
  let second := yH1 p.caps.length (yK6 p.seats items Seat.second) first.flatten
  ⟨first, second, second.flatten⟩
def yM8 (p : Plan) (items : List Int) : Run × Int :=
  if (yu4 p).2 ≠ 0 then (.zero, (yu4 p).2) else
  if 2000 < items.length then (.zero, 5) else
  if yv1 p.seats [] items ≠ 0 then (.zero, yv1 p.seats [] items) else
  (zd0 p items, 0)
end Go.Sx.Seq
namespace Go.Sx.Srt
open Go.Sx.Seq (zm3 zl8)
structure Fd where
  item : Int
  st : Int
deriving DecidableEq
structure Ev where
  kind : Int
  item : Int
  st : Int
deriving DecidableEq
structure M where
  stackers : List (List Int)
  swept : List Int
  over : List Int
  rej : List Int
  evs : List Ev
  held : List Int
  left : Int
def M.new (n : Nat) (sweeps : Int) : M := ⟨List.replicate n [], List.replicate n 0, [], [], [], List.replicate n 0, sweeps⟩
def putAt (l : List (List Int)) (k : Nat) (x : Int) : List (List Int) := l.set k (l.getD k [] ++ [x])
theorem zW9 (l : List (List Int)) (k : Nat) (x : Int) : (putAt l k x).length = l.length := by simp [putAt]
def ze0 (m : M) (f : Fd) : M := { m with stackers := putAt m.stackers f.st.toNat f.item, held := zm3 m.held f.st.toNat 1 }
def note (m : M) (l : List Ev) : M := { m with evs := m.evs ++ l }
def zg2 (caps : List Int) (m : M) (f : Fd) : M :=
  if f.st < 0 then note { m with rej := m.rej ++ [f.item] } [⟨4, f.item, -1⟩] else
  if m.held.getD f.st.toNat 0 < caps.getD f.st.toNat 0 then ze0 (note m [⟨1, f.item, f.st⟩]) f else
  if 0 < m.left then ze0 (note { m with left := m.left - 1, held := m.held.set f.st.toNat 0, swept := zm3 m.swept f.st.toNat 1 } [⟨2, f.item, f.st⟩, ⟨1, f.item, f.st⟩]) f else
  note { m with over := m.over ++ [f.item] } [⟨3, f.item, f.st⟩]
def za2 (caps : List Int) (sweeps : Int) (feeds : List Fd) : M := feeds.foldl (zg2 caps) (M.new caps.length sweeps)
theorem zz2 (caps : List Int) (sweeps : Int) (l : List Fd) (f : Fd) : za2 caps sweeps (l ++ [f]) = zg2 caps (za2 caps sweeps l) f := by simp [za2]
structure Sz (n : Nat) (m : M) : Prop where
  st : m.stackers.length = n
  sw : m.swept.length = n
  hd : m.held.length = n
theorem Sz.new (n : Nat) (s : Int) : Sz n (M.new n s) := ⟨by simp [M.new], by simp [M.new], by simp [M.new]⟩
theorem Sz.take {n : Nat} {m : M} (h : Sz n m) (caps : List Int) (f : Fd) : Sz n (zg2 caps m f) := by
  have h1 := h.st; have h2 := h.sw; have h3 := h.hd
  unfold zg2
  split
  · exact ⟨h1, h2, h3⟩
  · split
    · exact ⟨by simp [ze0, note, zW9, h1], by simp [ze0, note, h2], by simp [ze0, note, zl8, h3]⟩
    · split
      · exact ⟨by simp [ze0, note, zW9, h1], by simp [ze0, note, zl8, h2], by simp [ze0, note, zl8, h3]⟩
      · exact ⟨h1, h2, h3⟩
theorem zI2 (caps : List Int) (s : Int) (l : List Fd) : Sz caps.length (za2 caps s l) := by
  unfold za2
  have : ∀ (l : List Fd) (m : M), Sz caps.length m → Sz caps.length (l.foldl (zg2 caps) m) := by
    intro l
    induction l with
    | nil => exact fun m h => h
    | cons f r ih => exact fun m h => ih _ (h.take caps f)
  exact this l _ (Sz.new _ _)
def zo3 (caps : List Int) : Prop := (1 ≤ caps.length ∧ caps.length ≤ 64) ∧ ∀ c ∈ caps, 1 ≤ c ∧ c ≤ 100000
instance (caps : List Int) : Decidable (zo3 caps) := by unfold zo3; infer_instance
def Fd.ok (n : Nat) (f : Fd) : Prop := (1 ≤ f.item ∧ f.item ≤ 999999) ∧ (-1 ≤ f.st ∧ f.st < n)
instance (n : Nat) (f : Fd) : Decidable (f.ok n) := by unfold Fd.ok; infer_instance
def zA9 (n : Nat) : List Int → List Fd → Bool
  | _, [] => false
  | met, f :: r => if f.ok n ∧ f.item ∉ met then zA9 n (met ++ [f.item]) r else true
def zp0 (n : Nat) (l : List Fd) : Int := if 2000 < l.length then 5 else if zA9 n [] l = true then 291 else 0
def zd0 (caps : List Int) (sweeps : Int) (l : List Fd) : M × Int :=
  if ¬ zo3 caps then (M.new 0 0, 290) else
  if sweeps < 0 ∨ 1000 < sweeps then (M.new 0 0, 2) else
  if zp0 caps.length l ≠ 0 then (M.new 0 0, zp0 caps.length l) else
  (za2 caps sweeps l, 0)
def yM7 (caps : List Int) (l : List Fd) : Int × Int :=
  if ¬ zo3 caps then (0, 290) else
  if zp0 caps.length l ≠ 0 then (0, zp0 caps.length l) else
  ((za2 caps l.length l).swept.sum, 0)
structure FdsOk (n : Nat) (l : List Fd) : Prop where
  ok : ∀ f ∈ l, f.ok n
  nd : (l.map Fd.item).Nodup
  len : l.length ≤ 2000
theorem zy5 {n : Nat} : ∀ {l : List Fd} {met : List Int}, zA9 n met l = false ↔ (∀ f ∈ l, f.ok n) ∧ (l.map Fd.item).Nodup ∧ ∀ f ∈ l, f.item ∉ met
  | [], met => by simp [zA9]
  | f :: r, met => by
    rw [zA9]
    by_cases h : f.ok n ∧ f.item ∉ met
    · rw [if_pos h, zy5]
      simp only [List.mem_cons, List.map_cons, List.nodup_cons, List.mem_append, List.mem_map, List.not_mem_nil, or_false]
      constructor
      · rintro ⟨h1, h2, h3⟩
        refine ⟨?_, ⟨?_, h2⟩, ?_⟩
        · rintro x (rfl | hx)
          · exact h.1
          · exact h1 x hx
        · rintro ⟨x, hx, e⟩
          exact h3 x hx (.inr e)
        · rintro x (rfl | hx)
          · exact h.2
          · exact fun g => h3 x hx (.inl g)
      · rintro ⟨h1, ⟨h2, h3⟩, h4⟩
        refine ⟨fun x hx => h1 x (.inr hx), h3, fun x hx => ?_⟩
        rintro (g | g)
        · exact h4 x (.inr hx) g
        · exact h2 ⟨x, hx, g⟩
    · rw [if_neg h]
      constructor
      · intro g; cases g
      · rintro ⟨h1, _, h3⟩
        exact absurd ⟨h1 f List.mem_cons_self, h3 f List.mem_cons_self⟩ h
theorem FdsOk.fed {n : Nat} {l : List Fd} (h : FdsOk n l) : zp0 n l = 0 := by
  unfold zp0
  rw [if_neg (by have := h.len; omega), zy5.2 ⟨h.ok, h.nd, by simp⟩]
  rfl
theorem yF4 {caps : List Int} {s : Int} {l : List Fd} (hc : zo3 caps) (hs : 0 ≤ s ∧ s ≤ 1000) (hl : FdsOk caps.length l) : zd0 caps s l = (za2 caps s l, 0) := by
  unfold zd0
  rw [if_neg (by simp [hc]), if_neg (by omega), if_neg (by rw [hl.fed]; simp)]
def yM0 (m : M) : List Int := m.stackers.flatten
end Go.Sx.Srt
