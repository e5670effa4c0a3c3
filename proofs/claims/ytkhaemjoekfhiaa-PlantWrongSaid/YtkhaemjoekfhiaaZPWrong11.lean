/-
  PlantWrong: whatever the plant in small numbers and the choice of the record that is wrong, the law returns true, and its argument reads as it did. Conditions: none.
-/
import Derived.Test.YtkhaemjoekfhiaaZPWrong3
import Derived.Test.YtkhaemjoekfhiaaZPWrong9
import Derived.Test.YtkhaemjoekfhiaaZPWrong10
import Derived.Test.YtkhaemjoekfhiaaZPWrong2
set_option linter.unusedSimpArgs false
set_option linter.unusedVariables false
set_option linter.unusedSectionVars false
namespace Go.Sx.Plt
open Go.Proofs.Ytkhaemjoekfhiaa (psF tkF mslF_keys)
theorem machsBad_app : ∀ {l r : List Mach} {met : List Int} {i : Nat}, machsBad met i l = none → machsBad met i (l ++ r) = machsBad (met ++ l.map Mach.id) (i + l.length) r
  | [], r, met, i, _ => by simp
  | a :: l, r, met, i, h => by
    rw [machsBad] at h
    split at h
    case isFalse => cases h
    rename_i hok
    rw [List.cons_append, machsBad, if_pos hok, machsBad_app h, List.map_cons, List.length_cons, List.append_assoc, List.singleton_append, show i + 1 + l.length = i + (l.length + 1) from by omega]
theorem itemsBad_app : ∀ {l r : List Item} {met : List Int} {i : Nat}, itemsBad met i l = none → itemsBad met i (l ++ r) = itemsBad (met ++ l.map Item.id) (i + l.length) r
  | [], r, met, i, _ => by simp
  | a :: l, r, met, i, h => by
    rw [itemsBad] at h
    split at h
    case isFalse => cases h
    rename_i hok
    rw [List.cons_append, itemsBad, if_pos hok, itemsBad_app h, List.map_cons, List.length_cons, List.append_assoc, List.singleton_append, show i + 1 + l.length = i + (l.length + 1) from by omega]
theorem passesBad_app {msl : List (Int × Int)} : ∀ {l r : List Pass} {ps tk : List (Int × Int)} {i : Nat}, passesBad msl ps tk i l = none → passesBad msl ps tk i (l ++ r) = passesBad msl (ps ++ psF msl l) (tk ++ tkF l) (i + l.length) r
  | [], r, ps, tk, i, _ => by simp [psF, tkF]
  | a :: l, r, ps, tk, i, h => by
    rw [passesBad] at h
    split at h
    case isFalse => cases h
    rename_i hok
    rw [List.cons_append, passesBad, if_pos hok, passesBad_app h, List.length_cons, List.append_assoc, List.append_assoc, List.singleton_append, show i + 1 + l.length = i + (l.length + 1) from by omega]
    have : tkF (a :: l) = a.src ++ tkF l := by simp [tkF]
    rw [this]; rfl
theorem valid_none {p : Plant} (h : validF p = (0, 0)) : machsBad [] 0 p.ms = none ∧ itemsBad [] 0 p.items = none ∧ passesBad (mslF p.ms) [] [] 0 p.passes = none := by
  unfold validF at h
  by_cases hb : 20 < p.ms.length ∨ 2000 < p.items.length ∨ 60 < p.passes.length
  · rw [if_pos hb] at h; cases h
  rw [if_neg hb] at h
  cases h1 : machsBad [] 0 p.ms with
  | some i => rw [h1] at h; cases h
  | none =>
    cases h2 : itemsBad [] 0 p.items with
    | some i => rw [h1, h2] at h; cases h
    | none =>
      cases h3 : passesBad (mslF p.ms) [] [] 0 p.passes with
      | some i => rw [h1, h2, h3] at h; cases h
      | none => exact ⟨rfl, rfl, rfl⟩
theorem valid_big {p : Plant} (h : 20 < p.ms.length ∨ 2000 < p.items.length ∨ 60 < p.passes.length) : validF p = (0, 5) := by
  unfold validF
  rw [if_pos h]
theorem bad_ms {p : Plant} (hv : validF p = (0, 0)) (hl : p.ms.length < 20 ∧ p.items.length ≤ 2000 ∧ p.passes.length ≤ 60) {m : Mach} (hm : m.id ∈ p.ms.map Mach.id ∨ ¬ rightM m) : validF ⟨p.ms ++ [m], p.items, p.passes⟩ = (p.ms.length, 310) := by
  have h1 := (valid_none hv).1
  unfold validF
  rw [if_neg (by dsimp only; rw [List.length_append, List.length_singleton]; omega)]
  dsimp only
  rw [machsBad_app h1, machsBad, if_neg (fun h => hm.elim (fun hh => h.1 (by simpa using hh)) (fun hh => hh h.2)), Nat.zero_add]
theorem bad_it {p : Plant} (hv : validF p = (0, 0)) (hl : p.ms.length ≤ 20 ∧ p.items.length < 2000 ∧ p.passes.length ≤ 60) {x : Item} (hx : ¬ x.ok) : validF ⟨p.ms, p.items ++ [x], p.passes⟩ = (p.items.length, 311) := by
  obtain ⟨h1, h2, -⟩ := valid_none hv
  unfold validF
  rw [if_neg (by dsimp only; rw [List.length_append, List.length_singleton]; omega)]
  dsimp only
  rw [h1]
  dsimp only
  rw [itemsBad_app h2, itemsBad, if_neg (fun h => hx h.1), Nat.zero_add]
theorem good_it {p : Plant} (hv : validF p = (0, 0)) (hl : p.ms.length ≤ 20 ∧ p.items.length < 2000 ∧ p.passes.length ≤ 60) {x : Item} (hx : x.ok) (hn : x.id ∉ p.items.map Item.id) : validF ⟨p.ms, p.items ++ [x], p.passes⟩ = (0, 0) := by
  obtain ⟨h1, h2, h3⟩ := valid_none hv
  unfold validF
  rw [if_neg (by dsimp only; rw [List.length_append, List.length_singleton]; omega)]
  dsimp only
  rw [h1]
  dsimp only
  rw [itemsBad_app h2, itemsBad, if_pos ⟨hx, by simpa using hn⟩, itemsBad]
  dsimp only
  rw [h3]
theorem bad_ps {p : Plant} (hv : validF p = (0, 0)) {ys : List Pass} (hl : p.ms.length ≤ 20 ∧ p.items.length ≤ 2000 ∧ p.passes.length + ys.length ≤ 60) {j : Nat} (h : passesBad (mslF p.ms) (psF (mslF p.ms) p.passes) (tkF p.passes) p.passes.length ys = some j) : validF ⟨p.ms, p.items, p.passes ++ ys⟩ = (j, 312) := by
  obtain ⟨h1, h2, h3⟩ := valid_none hv
  unfold validF
  rw [if_neg (by dsimp only; rw [List.length_append]; omega)]
  dsimp only
  rw [h1]
  dsimp only
  rw [h2]
  dsimp only
  rw [passesBad_app h3, List.nil_append, List.nil_append, Nat.zero_add, h]
/-- What makes records wrong that are put behind those of a plant. -/
structure Odd (p : Plant) (m : Mach) : Prop where
  caps : 1 ≤ m.caps.length
  mid : m.id ∈ p.ms.map Mach.id
  msl : asF m.id (mslF p.ms) = some (m.caps.length : Int)
  ids : ∀ id, id < 15 → asF id (psF (mslF p.ms) p.passes) = none
  tk : ((1 : Int), (0 : Int)) ∉ tkF p.passes
  its : ∀ id, id < 22 → id ∉ p.items.map Item.id
theorem odd_built (x : Sk) {m : Mach} (h : (built x).ms[0]? = some m) : Odd (built x) m := by
  have hb := built_bi x
  have hmm : m ∈ bMs x := List.mem_of_getElem? h
  have hids : ∀ id n, asF id (psF (mslF (bMs x)) (bAt (bMs x) (bIs x) x.ps (min x.ps.length 6)).2) = some n → 15 ≤ id := fun id n hh => by
    obtain ⟨j, hj, e⟩ := key_ids (bAt_len ..) hb.ids hh
    omega
  refine ⟨(bMs_caps hmm).1, List.mem_map.2 ⟨m, hmm, rfl⟩, asF_at (j := 0) (by rw [mslF_keys]; exact bMs_nodup x) (by rw [mslF, List.getElem?_map, h]; rfl), fun id hid => ?_, fun hh => ?_, fun id hid hh => ?_⟩
  · cases hq : asF id (psF (mslF (built x).ms) (built x).passes) with
    | none => rfl
    | some n => exact absurd (hids id n hq) (by omega)
  · have h1 := (hb.src _ (List.mem_append.2 (.inr hh))).1
    unfold srcOk at h1
    rw [if_neg (by decide)] at h1
    cases hq : asF (1 : Int) (psF (mslF (bMs x)) (bAt (bMs x) (bIs x) x.ps (min x.ps.length 6)).2) with
    | none => dsimp only at h1; rw [hq] at h1; exact h1
    | some n => exact absurd (hids 1 n hq) (by omega)
  · obtain ⟨y, hy, rfl⟩ := List.mem_map.1 hh
    have hy' : y ∈ bIsN x.its (min x.its.length 40) := hy
    obtain ⟨i, hi, rfl⟩ := List.mem_map.1 hy'
    have := List.mem_range.1 hi
    have e : (bItem x.its i).id = 100 - 2 * (i : Int) := rfl
    omega
theorem pass1 {p : Plant} {m : Mach} (h : Odd p m) : passOk (mslF p.ms) (psF (mslF p.ms) p.passes) (tkF p.passes) ⟨1, m.id, 0, [], [], []⟩ :=
  ⟨⟨⟨h.ids 1 (by omega), by dsimp only; rw [h.msl]; rfl⟩, ⟨by dsimp only [List.length_nil]; decide, by dsimp only [List.length_nil]; decide⟩, by dsimp only [List.length_nil]; decide, by dsimp only [List.length_nil]; decide⟩, trivial, ⟨by dsimp only [List.length_nil]; decide, by dsimp only [List.length_nil]; decide⟩, trivial⟩
theorem ps1 {p : Plant} {m : Mach} (h : Odd p m) : asF (1 : Int) (psF (mslF p.ms) p.passes ++ [(1, (asF m.id (mslF p.ms)).getD 0)]) = some (m.caps.length : Int) := by
  rw [asF_app, h.ids 1 (by omega), h.msl]; rfl
theorem ps2 {p : Plant} {m : Mach} (h : Odd p m) : asF (2 : Int) (psF (mslF p.ms) p.passes ++ [(1, (asF m.id (mslF p.ms)).getD 0)]) = none := by
  rw [asF_app, h.ids 2 (by omega), h.msl]; rfl
theorem bad7 {p : Plant} {m : Mach} (h : Odd p m) : passesBad (mslF p.ms) (psF (mslF p.ms) p.passes) (tkF p.passes) p.passes.length [⟨1, m.id, 0, [(1, 0)], [], []⟩] = some p.passes.length := by
  rw [passesBad, if_neg]
  intro hh
  have h1 := hh.2.1.1.1
  unfold srcOk at h1
  rw [if_neg (by dsimp only [List.length_nil]; decide)] at h1
  dsimp only at h1
  rw [h.ids 1 (by omega)] at h1
  exact h1
theorem bad8 {p : Plant} {m : Mach} (h : Odd p m) : passesBad (mslF p.ms) (psF (mslF p.ms) p.passes) (tkF p.passes) p.passes.length [⟨1, m.id, 0, [(0, 9), (0, 9)], [], []⟩] = some p.passes.length := by
  rw [passesBad, if_neg]
  intro hh
  exact hh.2.1.2.1.2 (by simp)
theorem bad9 {p : Plant} {m : Mach} (h : Odd p m) : passesBad (mslF p.ms) (psF (mslF p.ms) p.passes) (tkF p.passes) p.passes.length [⟨1, m.id, 0, [], [], []⟩, ⟨2, m.id, 0, [(1, (m.caps.length : Int))], [], []⟩] = some (p.passes.length + 1) := by
  rw [passesBad, if_pos (pass1 h), passesBad, if_neg]
  intro hh
  have h1 := hh.2.1.1.1
  unfold srcOk at h1
  rw [if_neg (by dsimp only [List.length_nil]; decide)] at h1
  dsimp only at h1
  rw [ps1 h] at h1
  dsimp only at h1
  omega
theorem bad10 {p : Plant} {m : Mach} (h : Odd p m) : passesBad (mslF p.ms) (psF (mslF p.ms) p.passes) (tkF p.passes) p.passes.length [⟨1, m.id, 0, [], [], []⟩, ⟨2, m.id, 0, [(1, 0)], [], []⟩, ⟨3, m.id, 0, [(1, 0)], [], []⟩] = some (p.passes.length + 2) := by
  have hc := h.caps
  rw [passesBad, if_pos (pass1 h), passesBad, if_pos, passesBad, if_neg]
  · intro hh
    exact hh.2.1.1.2 (by simp)
  · refine ⟨⟨⟨ps2 h, by dsimp only; rw [h.msl]; rfl⟩, ⟨by dsimp only [List.length_nil]; decide, by dsimp only [List.length_nil]; decide⟩, by dsimp only [List.length_nil]; decide, by dsimp only [List.length_nil]; decide⟩, ⟨⟨?_, ?_⟩, trivial⟩, ⟨by dsimp only [List.length_nil]; decide, by dsimp only [List.length_nil]; decide⟩, trivial⟩
    · unfold srcOk
      rw [if_neg (by dsimp only [List.length_nil]; decide)]
      dsimp only
      rw [ps1 h]
      dsimp only
      omega
    · rw [List.append_nil]; exact h.tk
theorem bad11 {p : Plant} {m : Mach} (h : Odd p m) : passesBad (mslF p.ms) (psF (mslF p.ms) p.passes) (tkF p.passes) p.passes.length [⟨1, m.id, 0, [], [⟨4, 0⟩, ⟨4, 0⟩], []⟩] = some p.passes.length := by
  rw [passesBad, if_neg]
  intro hh
  exact hh.2.2.2.2.1.1 (by simp)
theorem bad4 : ¬ rightM ⟨1, 0, 1, [1], [⟨3, 3⟩]⟩ := fun h => by
  have := h.2.2.2
  revert this
  decide
theorem bad5 : ¬ rightM ⟨1, 0, 1001, [1], []⟩ := fun h => by
  have := h.2.1.2
  dsimp only at this
  omega
/-! ## where things are, with one item more -/
theorem where_more {p : Plant} (hv : validF p = (0, 0)) (hl : p.ms.length ≤ 20 ∧ p.items.length < 2000 ∧ p.passes.length ≤ 60) (hi : ∀ id, id < 22 → id ∉ p.items.map Item.id) :
    validF ⟨p.ms, p.items ++ [⟨1, 0, 1⟩], p.passes⟩ = (0, 0) ∧ whereF ⟨p.ms, p.items ++ [⟨1, 0, 1⟩], p.passes⟩ 0 (-1) = ((0, 0, 0), 6) ∧ whereF ⟨p.ms, p.items ++ [⟨1, 0, 1⟩], p.passes⟩ 1 (-1) = ((0, 0, 0), 2) ∧
    whereF ⟨p.ms, p.items ++ [⟨1, 0, 1⟩], p.passes⟩ 1 1051898400 = ((0, 0, 0), 3) ∧ ∃ z : Int × Int × Int, whereF ⟨p.ms, p.items ++ [⟨1, 0, 1⟩], p.passes⟩ 1 1051898399 = (z, 0) := by
  have hv2 := good_it hv hl (x := ⟨1, 0, 1⟩) (by unfold Item.ok idOk; decide) (hi 1 (by omega))
  have hg : (⟨p.ms, p.items ++ [⟨1, 0, 1⟩], p.passes⟩ : Plant).items[p.items.length]? = some ⟨1, 0, 1⟩ := by
    show (p.items ++ [(⟨1, 0, 1⟩ : Item)])[p.items.length]? = some ⟨1, 0, 1⟩
    rw [List.getElem?_append_right (Nat.le_refl _), Nat.sub_self]; rfl
  have hx := idx_items (valid_of hv2).ind hg
  have h0 : idxF 0 ((p.items ++ [(⟨1, 0, 1⟩ : Item)]).map Item.id) = none := idxF_none.2 (by rw [List.map_append]; simpa using hi 0 (by omega))
  refine ⟨hv2, ?_, ?_, ?_, ?_⟩
  · unfold whereF; dsimp only; rw [h0]
  · unfold whereF; dsimp only at hx ⊢; rw [hx]; rfl
  · unfold whereF; dsimp only at hx ⊢; rw [hx]; rfl
  · unfold whereF
    dsimp only at hx ⊢
    rw [hx]
    dsimp only
    rw [if_neg (by decide), if_neg (by decide)]
    split
    · exact ⟨_, rfl⟩
    · exact ⟨_, rfl⟩
end Go.Sx.Plt
namespace Go.Proofs.Ytkhaemjoekfhiaa
open Go Go.Sx Go.RowKit
section
variable {r : Option Nat} {P : Program} {n : Nat} {D : List Deferred} {w0 : World} {F : List (Nat × Value)} {L : List Ent} {Q : Exit → Act → World → Prop} {ops : Array Oper}
variable {d : Tmp} {ty : TypeId} {pos : String} {af : Array Edge} {rest : List Oper}
theorem o_rem8E {x y : Operand} {m l v : Int} {t u : TypeId} (hx : ev F x = some (.int .u8 m)) (hy : ev F y = some (.int .u8 l)) (e : m % l = v) (hr : 0 ≤ m ∧ 0 < l) (hd : Nat.ble (d + 1) n = true)
    (h : St n D w0 ((d, .int .u8 v) :: F) L (WL r P ops Q rest)) : St n D w0 F L (WL r P ops Q (⟨some d, .binOp .rem t x y u, ty, pos, af, none⟩ :: rest)) :=
  o_rem_w hx hy hd (by omega) (by rw [Int.tmod_eq_emod_of_nonneg hr.1, e]; exact h)
end
attribute [local irreducible] WL WC WQ WR WB WF QB St Exit.then Exit.inBlock Exit.noGoto bodyPost roundPost beginK YR RG BM Calls B AgainD MeetD
/-! ## PlantKeeps -/
end Go.Proofs.Ytkhaemjoekfhiaa
namespace Go.Sx.Plt
open Go.Proofs.Ytkhaemjoekfhiaa (mslF_keys psF tkF psF_snoc tkF_snoc)
/-- The stacker of a stop; -1 if it has none, or the item is not read. -/
def toF (l : List Row) (stop : Int) (b : Bool) : Int := if b = true then (asF stop (tableF l)).getD (-1) else -1
theorem Ran.mem {p : Plant} (hv : Valid p) {i : Nat} {y : Pass} (hy : p.passes[i]? = some y) {m : Mach} (hm : asF y.mach (mslF p.ms) = some (m.caps.length : Int)) {r : Run} {ready : Int} (hc : Ran p (hallAt p i) m y r ready) : (∀ x ∈ r.items, x ∈ p.items.map Item.id) ∧ r.items.Nodup ∧ r.items.length ≤ 2000 := by
  have e := (takeSrc_spec hc.take).1
  rw [List.nil_append] at e
  obtain ⟨_, h1, h2⟩ := hv.feeds (Inv.all hv i) hy hm e
  exact ⟨h1, h2, by rw [hc.items hv hy]; exact hv.taken_len hy⟩
end Go.Sx.Plt
namespace Go.Proofs.Ytkhaemjoekfhiaa
open Go Go.Sx Go.RowKit
attribute [local irreducible] WL WC WQ WR WB WF QB St Exit.then Exit.inBlock Exit.noGoto bodyPost roundPost beginK YR RG BM Calls B AgainD MeetD
theorem PassV.eqs {w : World} {d : PD} {y : Plt.Pass} (h : PassV w d y) : ∃ x1 k1 x2 k2 x3 k3, d = ⟨y.id, y.mach, y.rel, (x1, y.src.length, k1), (x2, y.table.length, k2), (x3, y.unread.length, k3)⟩ := by
  obtain ⟨x1, k1, e1⟩ := h.src.sd
  obtain ⟨x2, k2, e2⟩ := h.table.sd
  obtain ⟨x3, k3, e3⟩ := h.unread.sd
  refine ⟨x1, k1, x2, k2, x3, k3, ?_⟩
  obtain ⟨a, b, c, i1, i2, i3⟩ := d
  obtain rfl : a = y.id := h.id
  obtain rfl : b = y.mach := h.mach
  obtain rfl : c = y.rel := h.rel
  dsimp only at e1 e2 e3
  rw [e1, e2, e3]
theorem PlV.machAt {w : World} {i ap : SD} {am : Option Addr} {n cm k : Nat} {ds : List MD} {ys : List PD} {p : Plt.Plant} {m : Plt.Mach} (h : PlV w ⟨(am, n, cm), i, ap, ds, ys⟩ p) (hm : p.ms[k]? = some m) : ∃ bM oM x1 k1 x2 k2, am = some ⟨bM, oM, none⟩ ∧
    ds[k]? = some ⟨m.id, m.sweeps, m.rate, (x1, m.caps.length, k1), (x2, m.shifts.length, k2)⟩ ∧
    ∀ (j : Nat) (u : Value), ([.int .i64 m.id, .int .i64 m.sweeps, .int .i64 m.rate, .slice x1 m.caps.length k1, .slice x2 m.shifts.length k2] : List Value)[j]? = some u → (encMD ⟨m.id, m.sweeps, m.rate, (x1, m.caps.length, k1), (x2, m.shifts.length, k2)⟩)[j]? = some u := by
  have hl := (List.getElem?_eq_some_iff.1 hm).1
  have hlm := h.lm
  dsimp only at hlm
  obtain ⟨d, hd⟩ : ∃ d, ds[k]? = some d := ⟨_, List.getElem?_eq_getElem (by omega)⟩
  obtain ⟨x1, k1, x2, k2, rfl⟩ := (h.machs k d m hd hm).eqs
  obtain ⟨bM, oM, e⟩ := SV.ptr h.ms hd
  exact ⟨bM, oM, x1, k1, x2, k2, e, hd, fun _ _ h => h⟩
end Go.Proofs.Ytkhaemjoekfhiaa
namespace Go.Proofs.Ytkhaemjoekfhiaa
open Go Go.Sx Go.RowKit
attribute [local irreducible] WL WC WQ WR WB WF QB St Exit.then Exit.inBlock Exit.noGoto bodyPost roundPost beginK YR RG BM Calls B AgainD MeetD
/-! ## rows with one more -/
theorem remL_app4 {L A B C D L1 L2 L3 L4 : List Ent} (h1 : RemL L A L1) (h2 : RemL L1 B L2) (h3 : RemL L2 C L3) (h4 : RemL L3 D L4) : RemL L (A ++ (B ++ (C ++ D))) L4 := by
  unfold RemL at *
  rw [List.append_assoc, List.append_assoc, List.append_assoc]
  exact h1.trans (List.Perm.append_left A (h2.trans (List.Perm.append_left B (h3.trans (List.Perm.append_left C h4)))))
def R2 {α β : Type} (R : World → α → β → Prop) (xs : List α) (ys : List β) (w : World) : Prop := ∀ (i : Nat) (a : α) (b : β), xs[i]? = some a → ys[i]? = some b → R w a b
theorem shw_nil2 {α β : Type} {R : World → α → β → Prop} {N : List Ent} : Shw N (R2 R [] []) := fun _ _ _ _ _ _ i a b h _ => by simp at h
theorem shw_cons2 {α β : Type} {R : World → α → β → Prop} {x : α} {y : β} {xs : List α} {ys : List β} {N N' : List Ent} (h : Shw N (fun w => R w x y)) (h' : Shw N' (R2 R xs ys)) : Shw (N ++ N') (R2 R (x :: xs) (y :: ys)) :=
  fun w0 w L L0 hr hw i a b ha hb => by
    cases i with
    | zero => cases ha; cases hb; exact (Shw.left h) w0 w L L0 hr hw
    | succ i => exact (Shw.right h') w0 w L L0 hr hw i a b (by simpa using ha) (by simpa using hb)
theorem shw_app2 {α β : Type} {R : World → α → β → Prop} {xs xs' : List α} {ys ys' : List β} {N N' : List Ent} (hl : xs.length = ys.length) (h : Shw N (R2 R xs ys)) (h' : Shw N' (R2 R xs' ys')) : Shw (N' ++ N) (R2 R (xs ++ xs') (ys ++ ys')) :=
  fun w0 w L L0 hr hw i a b ha hb => by
    by_cases hi : i < xs.length
    · rw [List.getElem?_append_left hi] at ha
      rw [List.getElem?_append_left (by omega)] at hb
      exact (Shw.right h) w0 w L L0 hr hw i a b ha hb
    · rw [List.getElem?_append_right (by omega)] at ha hb
      rw [← hl] at hb
      exact (Shw.left h') w0 w L L0 hr hw _ a b ha hb
theorem shw_lit {α : Type} {k n b : Nat} {e : TypeId} {enc : α → List Value} {l : List Value} (xs : List α) (henc : ∀ x, (enc x).length = k) (hl : l = xs.flatMap enc) (hn : n = xs.length) (hb : n ≤ 9223372036854775807) : Shw [⟨b, Ce l e, true⟩] (fun w => SV w k enc (.slice (some ⟨b, 0, none⟩) n n) xs) :=
  fun w0 w L L0 hr hw => by
    subst hl hn
    have hwp : Rep w0 w ([⟨b, Ce (xs.flatMap enc) e, true⟩] ++ L0) := hw.perm hr
    have := Pat.flat henc xs []
    rw [List.append_nil] at this
    exact SV.of_kn (hwp.ok _ List.mem_cons_self) ⟨Nat.le_refl _, hb⟩ this
theorem zeros_rows {α : Type} {enc : α → List Value} (z : α) {zl : List Value} (h : enc z = zl) (n : Nat) : (List.replicate n zl).flatten = (List.replicate n z).flatMap enc ++ [] := by
  rw [List.append_nil, List.flatMap_def, List.map_replicate, h]
theorem zeros_ow {α : Type} {E : TypeId} {k n b : Nat} {enc : α → List Value} (z : α) {zl : List Value} (h : enc z = zl) (hk : ∀ x, (enc x).length = k) (hn : n ≤ 9223372036854775807) : OW E k enc (.slice (some ⟨b, 0, none⟩) n n) (List.replicate n z) [⟨b, Ce ((List.replicate n zl).flatten) E, true⟩] := by
  have := OW.row (E := E) (k := k) (enc := enc) (b := b) (cap := n) (xs := List.replicate n z) (s := []) (by rw [List.append_nil, flat_len hk, List.length_replicate]) (by rw [List.length_replicate]; exact ⟨Nat.le_refl _, hn⟩)
  rw [List.length_replicate, ← zeros_rows z h] at this
  exact this
theorem rep2 {α β : Type} {R : World → α → β → Prop} {x : α} {y : β} (h : ∀ w, R w x y) (n : Nat) (N : List Ent) : Shw N (R2 R (List.replicate n x) (List.replicate n y)) := fun w0 w L L0 hr hw i a b ha hb => by
  rw [List.getElem?_replicate] at ha hb
  by_cases hi : i < n
  · rw [if_pos hi] at ha hb
    cases ha; cases hb
    exact h w
  · rw [if_neg hi] at ha
    cases ha
theorem no_mach (w : World) : MachV w ⟨0, 0, 0, (none, 0, 0), (none, 0, 0)⟩ ⟨0, 0, 0, [], []⟩ := ⟨rfl, rfl, rfl, SV.nil, SV.nil⟩
theorem no_pass (w : World) : PassV w ⟨0, 0, 0, (none, 0, 0), (none, 0, 0), (none, 0, 0)⟩ ⟨0, 0, 0, [], [], []⟩ := ⟨rfl, rfl, rfl, SV.nil, SV.nil, SV.nil⟩
section
variable {p : Plt.Plant} {am ai ap : Option Addr} {cm ci cp : Nat} {ds : List MD} {ys : List PD} {NM NI NP NX : List Ent}
theorem more_ms {dx : List MD} {mx : List Plt.Mach} {N' : List Ent} (hx : dx.length = mx.length) (hM : OW 61 5 encMD (.slice am (ds ++ dx).length cm) (ds ++ dx) NM) (hI : OW 38 3 encItem (.slice ai p.items.length ci) p.items NI) (hP : OW 58 6 encPD (.slice ap p.passes.length cp) ys NP)
    (hl : ds.length = p.ms.length ∧ ys.length = p.passes.length) (hX : Shw NX (R2 MachV ds p.ms)) (hY : Shw NX (R2 PassV ys p.passes)) (h' : Shw N' (R2 MachV dx mx)) :
    Shw (NM ++ (NI ++ (NP ++ (N' ++ NX)))) (fun w => PlV w ⟨(am, (ds ++ dx).length, cm), (ai, p.items.length, ci), (ap, p.passes.length, cp), ds ++ dx, ys⟩ ⟨p.ms ++ mx, p.items, p.passes⟩) := by
  have e : (ds ++ dx).length = (p.ms ++ mx).length := by rw [List.length_append, List.length_append, hl.1, hx]
  rw [e] at hM ⊢
  exact built_plv (p := ⟨p.ms ++ mx, p.items, p.passes⟩) hM hI hP ⟨e, hl.2⟩ (shw_app2 hl.1 hX h') (Shw.right hY)
theorem more_ps {dx : List PD} {mx : List Plt.Pass} {N' : List Ent} (hx : dx.length = mx.length) (hM : OW 61 5 encMD (.slice am p.ms.length cm) ds NM) (hI : OW 38 3 encItem (.slice ai p.items.length ci) p.items NI) (hP : OW 58 6 encPD (.slice ap (ys ++ dx).length cp) (ys ++ dx) NP)
    (hl : ds.length = p.ms.length ∧ ys.length = p.passes.length) (hX : Shw NX (R2 MachV ds p.ms)) (hY : Shw NX (R2 PassV ys p.passes)) (h' : Shw N' (R2 PassV dx mx)) :
    Shw (NM ++ (NI ++ (NP ++ (N' ++ NX)))) (fun w => PlV w ⟨(am, p.ms.length, cm), (ai, p.items.length, ci), (ap, (ys ++ dx).length, cp), ds, ys ++ dx⟩ ⟨p.ms, p.items, p.passes ++ mx⟩) := by
  have e : (ys ++ dx).length = (p.passes ++ mx).length := by rw [List.length_append, List.length_append, hl.2, hx]
  rw [e] at hP ⊢
  exact built_plv (p := ⟨p.ms, p.items, p.passes ++ mx⟩) hM hI hP ⟨hl.1, e⟩ (Shw.right hX) (shw_app2 hl.2 hY h')
theorem more_it {ix : List Plt.Item} (hM : OW 61 5 encMD (.slice am p.ms.length cm) ds NM) (hI : OW 38 3 encItem (.slice ai (p.items ++ ix).length ci) (p.items ++ ix) NI) (hP : OW 58 6 encPD (.slice ap p.passes.length cp) ys NP)
    (hl : ds.length = p.ms.length ∧ ys.length = p.passes.length) (hX : Shw NX (R2 MachV ds p.ms)) (hY : Shw NX (R2 PassV ys p.passes)) :
    Shw (NM ++ (NI ++ (NP ++ NX))) (fun w => PlV w ⟨(am, p.ms.length, cm), (ai, (p.items ++ ix).length, ci), (ap, p.passes.length, cp), ds, ys⟩ ⟨p.ms, p.items ++ ix, p.passes⟩) :=
  built_plv (p := ⟨p.ms, p.items ++ ix, p.passes⟩) hM hI hP hl hX hY
theorem own4 {A B C D : List Ent} (h1 : ∀ x ∈ A, x.own = true) (h2 : ∀ x ∈ B, x.own = true) (h3 : ∀ x ∈ C, x.own = true) (h4 : ∀ x ∈ D, x.own = true) : ∀ x ∈ A ++ (B ++ (C ++ D)), x.own = true := fun x hx => by
  rcases List.mem_append.1 hx with h | hx
  · exact h1 x h
  rcases List.mem_append.1 hx with h | hx
  · exact h2 x h
  rcases List.mem_append.1 hx with h | hx
  · exact h3 x h
  · exact h4 x hx
end
theorem built_raw {v0 v1 v2 v3 : Value} {x : Plt.Sk} {p : Plt.Plant} (hp : Plt.built x = p) (w : World) (h0 : SV w 1 encB v0 x.ms) (h1 : SV w 1 encB v1 x.shs) (h2 : SV w 1 encB v2 x.its) (h3 : SV w 1 encB v3 x.ps) :
    Calls Try.prog 10 #[.agg #[v0, v1, v2, v3]] w fun e w' => ∃ v N, e = .returned v ∧ builtφ p v N ∧ Rep w w' N ∧ ∀ x ∈ N, x.own = true := by
  subst hp; exact built_calls w h0 h1 h2 h3
/-- What stands behind the choice of the record that is wrong. -/
structure WSt where
  d : PlD
  q : Plt.Plant
  pos : Nat
  want : Int
  N : List Ent
structure WOk (s : WSt) : Prop where
  show_ : Shw s.N (fun w => PlV w s.d s.q)
  val : Plt.validF s.q = (s.pos, s.want)
  want : s.want ≠ 0
  own : ∀ x ∈ s.N, x.own = true
/-! ## PlantWrong -/
set_option maxHeartbeats 32000000 in
set_option maxRecDepth 100000 in
theorem wrong31_calls {v0 v1 v2 v3 : Value} {x : Plt.Sk} {t8 : Int} (w : World) (h0 : SV w 1 encB v0 x.ms) (h1 : SV w 1 encB v1 x.shs) (h2 : SV w 1 encB v2 x.its) (h3 : SV w 1 encB v3 x.ps) (ht8 : 0 ≤ t8 ∧ t8 ≤ 255) :
    Calls Try.prog 8 #[.agg #[v0, v1, v2, v3], .int .u8 t8] w fun e w' => e = .returned (.bool true) ∧ Below w.heap.size w w' := by
  obtain ⟨p, hp⟩ : ∃ p, Plt.built x = p := ⟨_, rfl⟩
  have hbt := fun (w' : World) (L : List Ent) (hw : Rep w w' L) (ho : AO L) => built_raw hp w' (h0.keep hw ho) (h1.keep hw ho) (h2.keep hw ho) (h3.keep hw ho)
  have hnice := nice_built x
  obtain ⟨m, hm⟩ : ∃ m, p.ms[0]? = some m := ⟨_, List.getElem?_eq_getElem (by rw [← hp]; exact hnice.ms.1)⟩
  have hodd : Plt.Odd p m := by rw [← hp] at hm ⊢; exact Plt.odd_built x hm
  rw [hp] at hnice
  have hvv := hnice.valid
  have hms := hnice.ms
  have hil := hnice.items
  have hpl := hnice.passes
  obtain ⟨t, ht⟩ : ∃ t, t8 % 12 = t := ⟨_, rfl⟩
  have htc : t = 0 ∨ t = 1 ∨ t = 2 ∨ t = 3 ∨ t = 4 ∨ t = 5 ∨ t = 6 ∨ t = 7 ∨ t = 8 ∨ t = 9 ∨ t = 10 ∨ t = 11 := by omega
  obtain ⟨hv2, q0, q1, q2, ⟨⟨z1, z2, z3⟩, q3⟩⟩ := Plt.where_more hvv (by omega) hodd.its
  have hcalm2 := Plt.calm_of hv2
  clear h0 h1 h2 h3
  refine f_enter2 Try.func8 rfl Try.ntmps8 rfl (Rep.start w) ?_
  repeat' (first | ((first | ((with_reducible apply o_call_new (f := 10)); exact rfl) | ((with_reducible apply q_call_new (f := 10)); exact rfl; exact rfl; exact sJ_)); exact eV_; exact (fun w hw => hbt w _ hw (by exact aO_)); rintro v NB ⟨am, cm, ai, ci, ap, cp, ds, ys, NM, NI, NP, NX, rfl, ⟨gM, gI, gP⟩, ⟨rfl, oX⟩, hl, hMX, hPX⟩ <;> (try simp only [List.cons_append, List.nil_append, List.append_assoc])) | ((with_reducible first | apply o_move | apply o_assign | apply o_faddr0); exact rfl; exact rfl) | ((with_reducible apply gdo_load); first | refine wo_load (h := ?_) | refine wo_loadAll (h := ?_) | refine wo_loadC (h := ?_) | refine wo_ldV (h := ?_) | refine wo_ldF (h := ?_)) | ((with_reducible apply o_alloc); exact rfl; intro _) | ((with_reducible apply o_box); exact rfl; exact rfl; exact rfl; intro _) | ((with_reducible apply gdo_store); first | refine wo_store1 (h := ?_) | refine wo_storeA (h := ?_)) | ((with_reducible first | apply c_seq | apply c_region | apply c_nil | apply c_ret | apply c_exit | apply c_skip)) | ((with_reducible first | apply e_then | apply e_then_ret | apply e_then_exit | apply e_in | apply e_in_ret | apply e_in_same)))
  rename_i b2 b5
  have hB := built_plv gM gI gP hl hMX hPX
  have oM := gM.own
  have oI := gI.own
  have oP := gP.own
  refine st_know (fun w' hw' => PlV.machAt (hB _ _ _ _ (remL_app4 (by exact rL_) (by exact rL_) (by exact rL_) (by exact rL_)) hw') hm) ?_
  rintro ⟨bM, oM', m1, l4, m2, l5, rfl, hdm, gm⟩
  repeat' (first | ((with_reducible apply o_idx (m := 0)); infer_instance; infer_instance; exact rfl; exact rfl; exact rfl; exact rfl; omega) | ((with_reducible apply o_ldPV (l := [.int .i64 m.id, .int .i64 m.sweeps, .int .i64 m.rate, .slice m1 m.caps.length l4, .slice m2 m.shifts.length l5])); infer_instance; infer_instance; exact rfl; (intro w' hw' j' v' hj'; exact SV.cell (hB _ _ _ _ (remL_app4 (by exact rL_) (by exact rL_) (by exact rL_) (by exact rL_)) hw').ms hdm (gm _ _ hj')); exact rfl; exact rfl) | ((with_reducible apply o_rem8E (v := t)); exact rfl; exact rfl; exact ht; omega; exact rfl) | ((with_reducible first | apply o_move | apply o_assign | apply o_faddr0); exact rfl; exact rfl) | ((with_reducible apply o_alloc); exact rfl; intro _) | ((with_reducible apply gdo_store); first | refine wo_store1 (h := ?_) | refine wo_storeA (h := ?_)) | ((with_reducible first | apply c_seq | apply c_region | apply c_nil | apply c_ret | apply c_exit | apply c_skip)) | ((with_reducible first | apply e_then | apply e_then_ret | apply e_then_exit | apply e_in | apply e_in_ret | apply e_in_same)))
  rename_i b6
  apply c_post (σ := WSt) (Ds := fun _ => []) (Fs := fun s => [(8, .int .i64 s.want), (7, .int .i64 s.pos), (5, ptr b5), (2, ptr b2)])
    (Ls := fun s => ⟨b5, Ce [sdV s.d.m, sdV s.d.i, sdV s.d.p] 29, true⟩ :: (s.N ++ [⟨b2, Ce [v0, v1, v2, v3] 24, true⟩])) (I := WOk)
  · rcases htc with rfl | rfl | rfl | rfl | rfl | rfl | rfl | rfl | rfl | rfl | rfl | rfl
    -- 0
    · repeat' (first | ((with_reducible apply c_cond_t); exact rfl; exact decide_eq_true (by omega)) | ((with_reducible apply o_makeSlice (m := 21) (c := 21)); infer_instance; infer_instance; exact rfl; exact rfl; exact rfl; exact rfl; decide; decide; exact rfl; intro _) | ((with_reducible first | apply o_move | apply o_assign | apply o_faddr0); exact rfl; exact rfl) | ((with_reducible first | apply o_eql | apply o_neq | apply o_extract); exact rfl; exact rfl; exact rfl) | ((with_reducible apply gdo_store); first | refine wo_store1 (h := ?_) | refine wo_storeA (h := ?_)) | ((with_reducible first | apply c_seq | apply c_block | apply c_region | apply c_nil | apply c_ret | apply c_exit | apply c_skip)) | ((with_reducible first | apply e_then | apply e_then_ret | apply e_then_exit | apply e_in | apply e_in_ret | apply e_in_same)))
      rename_i bz
      have hz := zeros_ow (E := 61) (k := 5) (b := bz) (n := 21) (enc := encMD) ⟨0, 0, 0, (none, 0, 0), (none, 0, 0)⟩ rfl encMD_len (by decide)
      have hS := built_plv (p := ⟨List.replicate 21 ⟨0, 0, 0, [], []⟩, p.items, p.passes⟩) (NX := NX) (by rw [show (List.replicate 21 (⟨0, 0, 0, [], []⟩ : Plt.Mach)).length = 21 from List.length_replicate]; exact hz) gI gP ⟨by rw [List.length_replicate, List.length_replicate], hl.2⟩ (rep2 no_mach 21 NX) hPX
      rw [show (List.replicate 21 (⟨0, 0, 0, [], []⟩ : Plt.Mach)).length = 21 from List.length_replicate] at hS
      refine l_meetD (⟨⟨(some ⟨bz, 0, none⟩, 21, 21), (ai, p.items.length, ci), (ap, p.passes.length, cp), List.replicate 21 ⟨0, 0, 0, (none, 0, 0), (none, 0, 0)⟩, ys⟩, ⟨List.replicate 21 ⟨0, 0, 0, [], []⟩, p.items, p.passes⟩, 0, 5, _ ++ (NI ++ (NP ++ NX))⟩ : WSt) ⟨hS, Plt.valid_big (.inl (by rw [List.length_replicate]; decide)), (show (5 : Int) ≠ 0 by decide), own4 hz.own oI oP oX⟩ rfl ?_ ?_
      · (try dsimp only [sdV]); exact fS_
      · (try dsimp only [sdV]); (try simp only [List.append_assoc, List.cons_append, List.nil_append]); exact hS_
    -- 1
    · repeat' (first | ((with_reducible apply c_cond_t); exact rfl; exact decide_eq_true (by omega)) | ((with_reducible apply c_cond_f); exact rfl; exact decide_eq_false (by omega)) | ((with_reducible apply o_makeSlice (m := 2001) (c := 2001)); infer_instance; infer_instance; exact rfl; exact rfl; exact rfl; exact rfl; decide; decide; exact rfl; intro _) | ((with_reducible first | apply o_move | apply o_assign | apply o_faddr0); exact rfl; exact rfl) | ((with_reducible first | apply o_eql | apply o_neq | apply o_extract); exact rfl; exact rfl; exact rfl) | ((with_reducible apply gdo_store); first | refine wo_store1 (h := ?_) | refine wo_storeA (h := ?_)) | ((with_reducible first | apply c_seq | apply c_block | apply c_region | apply c_nil | apply c_ret | apply c_exit | apply c_skip)) | ((with_reducible first | apply e_then | apply e_then_ret | apply e_then_exit | apply e_in | apply e_in_ret | apply e_in_same)))
      rename_i bz
      have hz := zeros_ow (E := 38) (k := 3) (b := bz) (n := 2001) (enc := encItem) ⟨0, 0, 0⟩ rfl encItem_len (by decide)
      have hS := built_plv (p := ⟨p.ms, List.replicate 2001 ⟨0, 0, 0⟩, p.passes⟩) gM (by rw [show (List.replicate 2001 (⟨0, 0, 0⟩ : Plt.Item)).length = 2001 from List.length_replicate]; exact hz) gP hl hMX hPX
      rw [show (List.replicate 2001 (⟨0, 0, 0⟩ : Plt.Item)).length = 2001 from List.length_replicate] at hS
      refine l_meetD (⟨⟨(some ⟨bM, oM', none⟩, p.ms.length, cm), (some ⟨bz, 0, none⟩, 2001, 2001), (ap, p.passes.length, cp), ds, ys⟩, ⟨p.ms, List.replicate 2001 ⟨0, 0, 0⟩, p.passes⟩, 0, 5, NM ++ (_ ++ (NP ++ NX))⟩ : WSt) ⟨hS, Plt.valid_big (.inr (.inl (by rw [List.length_replicate]; decide))), (show (5 : Int) ≠ 0 by decide), own4 oM hz.own oP oX⟩ rfl ?_ ?_
      · (try dsimp only [sdV]); exact fS_
      · (try dsimp only [sdV]); (try simp only [List.append_assoc, List.cons_append, List.nil_append]); exact hS_
    -- 2
    · repeat' (first | ((with_reducible apply c_cond_t); exact rfl; exact decide_eq_true (by omega)) | ((with_reducible apply c_cond_f); exact rfl; exact decide_eq_false (by omega)) | ((with_reducible apply o_makeSlice (m := 61) (c := 61)); infer_instance; infer_instance; exact rfl; exact rfl; exact rfl; exact rfl; decide; decide; exact rfl; intro _) | ((with_reducible first | apply o_move | apply o_assign | apply o_faddr0); exact rfl; exact rfl) | ((with_reducible first | apply o_eql | apply o_neq | apply o_extract); exact rfl; exact rfl; exact rfl) | ((with_reducible apply gdo_store); first | refine wo_store1 (h := ?_) | refine wo_storeA (h := ?_)) | ((with_reducible first | apply c_seq | apply c_block | apply c_region | apply c_nil | apply c_ret | apply c_exit | apply c_skip)) | ((with_reducible first | apply e_then | apply e_then_ret | apply e_then_exit | apply e_in | apply e_in_ret | apply e_in_same)))
      rename_i bz
      have hz := zeros_ow (E := 58) (k := 6) (b := bz) (n := 61) (enc := encPD) ⟨0, 0, 0, (none, 0, 0), (none, 0, 0), (none, 0, 0)⟩ rfl encPD_len (by decide)
      have hS := built_plv (p := ⟨p.ms, p.items, List.replicate 61 ⟨0, 0, 0, [], [], []⟩⟩) (NX := NX) gM gI (by rw [show (List.replicate 61 (⟨0, 0, 0, [], [], []⟩ : Plt.Pass)).length = 61 from List.length_replicate]; exact hz) ⟨hl.1, by rw [List.length_replicate, List.length_replicate]⟩ hMX (rep2 no_pass 61 NX)
      rw [show (List.replicate 61 (⟨0, 0, 0, [], [], []⟩ : Plt.Pass)).length = 61 from List.length_replicate] at hS
      refine l_meetD (⟨⟨(some ⟨bM, oM', none⟩, p.ms.length, cm), (ai, p.items.length, ci), (some ⟨bz, 0, none⟩, 61, 61), ds, List.replicate 61 ⟨0, 0, 0, (none, 0, 0), (none, 0, 0), (none, 0, 0)⟩⟩, ⟨p.ms, p.items, List.replicate 61 ⟨0, 0, 0, [], [], []⟩⟩, 0, 5, NM ++ (NI ++ (_ ++ NX))⟩ : WSt) ⟨hS, Plt.valid_big (.inr (.inr (by rw [List.length_replicate]; decide))), (show (5 : Int) ≠ 0 by decide), own4 oM oI hz.own oX⟩ rfl ?_ ?_
      · (try dsimp only [sdV]); exact fS_
      · (try dsimp only [sdV]); (try simp only [List.append_assoc, List.cons_append, List.nil_append]); exact hS_
    -- 3
    · repeat' (first | ((with_reducible apply c_cond_t); exact rfl; exact decide_eq_true (by omega)) | ((with_reducible apply c_cond_f); exact rfl; exact decide_eq_false (by omega)) | ((with_reducible first | apply o_move | apply o_assign | apply o_faddr0); exact rfl; exact rfl) | ((with_reducible apply gdo_load); first | refine wo_load (h := ?_) | refine wo_loadAll (h := ?_) | refine wo_loadC (h := ?_) | refine wo_ldV (h := ?_) | refine wo_ldF (h := ?_)) | ((with_reducible first | apply o_eql | apply o_neq | apply o_extract); exact rfl; exact rfl; exact rfl) | ((with_reducible apply gdo_build); first | refine wo_build (h := ?_)) | ((with_reducible apply o_len); infer_instance; exact rfl; exact rfl) | ((with_reducible apply gdo_buildSlice); refine wo_buildSlice (h := fun _ => ?_)) | ((with_reducible first | apply c_seq | apply c_block | apply c_region | apply c_nil | apply c_ret | apply c_exit | apply c_skip)) | ((with_reducible first | apply e_then | apply e_then_ret | apply e_then_exit | apply e_in | apply e_in_ret | apply e_in_same)))
      rename_i bC bL
      repeat' (first | (apply o_appH (enc := encMD) (ys := [(⟨m.id, 0, 1, (some ⟨bC, 0, none⟩, 1, 1), (none, 0, 0)⟩ : MD)]); infer_instance; infer_instance; infer_instance; exact rfl; exact encMD_len; exact encMD_one; exact rfl; exact rfl; exact rfl; assumption; exact rL_; (exact fun w hw => SV.lit [(⟨m.id, 0, 1, (some ⟨bC, 0, none⟩, 1, 1), (none, 0, 0)⟩ : MD)] encMD_len hw (by exact aT_) rfl rfl (by decide)); (first | decide | (constructor <;> (try simp only [List.length_cons, List.length_nil]) <;> omega) | (constructor <;> simp <;> omega)); intro a_ cp_ N_ hO_; have oN_ := hO_.own; (try simp only [List.nil_append, List.append_assoc] at hO_); (try simp only [List.append_eq, List.append_assoc, List.cons_append, List.nil_append])) | ((with_reducible first | apply o_move | apply o_assign | apply o_faddr0); exact rfl; exact rfl) | ((with_reducible apply gdo_store); first | refine wo_store1 (h := ?_) | refine wo_storeA (h := ?_)) | ((with_reducible first | apply c_seq | apply c_block | apply c_region | apply c_nil | apply c_ret | apply c_exit | apply c_skip)) | ((with_reducible first | apply e_then | apply e_then_ret | apply e_then_exit | apply e_in | apply e_in_ret | apply e_in_same)))
      have s1 := shw_lit (b := bC) (e := 3) (k := 1) (n := 1) (enc := encI) [1] encI_len rfl rfl (by decide)
      have hN := shw_cons2 (R := MachV) (x := ⟨m.id, 0, 1, (some ⟨bC, 0, none⟩, 1, 1), (none, 0, 0)⟩) (y := ⟨m.id, 0, 1, [1], []⟩) (Shw.mono s1 fun w h => ⟨rfl, rfl, rfl, h, SV.nil⟩) (shw_nil2 (N := []))
      have hS := more_ms rfl hO_ gI gP hl hMX hPX hN
      refine l_meetD (⟨⟨(a_, (ds ++ [(⟨m.id, 0, 1, (some ⟨bC, 0, none⟩, 1, 1), (none, 0, 0)⟩ : MD)]).length, cp_), (ai, p.items.length, ci), (ap, p.passes.length, cp), ds ++ [⟨m.id, 0, 1, (some ⟨bC, 0, none⟩, 1, 1), (none, 0, 0)⟩], ys⟩, ⟨p.ms ++ [(⟨m.id, 0, 1, [1], []⟩ : Plt.Mach)], p.items, p.passes⟩, p.ms.length, 310, _ ++ (NI ++ (NP ++ (_ ++ NX)))⟩ : WSt) ⟨hS, Plt.bad_ms hvv (by omega) (.inl hodd.mid), (show (310 : Int) ≠ 0 by decide), own4 oN_ oI oP (own_app (by simp) oX)⟩ rfl ?_ ?_
      · (try dsimp only [sdV]); exact fS_
      · (try dsimp only [sdV]); (try simp only [List.append_assoc, List.cons_append, List.nil_append]); exact hS_
    -- 4
    · repeat' (first | ((with_reducible apply c_cond_t); exact rfl; exact decide_eq_true (by omega)) | ((with_reducible apply c_cond_f); exact rfl; exact decide_eq_false (by omega)) | ((with_reducible first | apply o_move | apply o_assign | apply o_faddr0); exact rfl; exact rfl) | ((with_reducible apply gdo_load); first | refine wo_load (h := ?_) | refine wo_loadAll (h := ?_) | refine wo_loadC (h := ?_) | refine wo_ldV (h := ?_) | refine wo_ldF (h := ?_)) | ((with_reducible first | apply o_eql | apply o_neq | apply o_extract); exact rfl; exact rfl; exact rfl) | ((with_reducible apply gdo_build); first | refine wo_build (h := ?_)) | ((with_reducible apply o_len); infer_instance; exact rfl; exact rfl) | ((with_reducible apply gdo_buildSlice); refine wo_buildSlice (h := fun _ => ?_)) | ((with_reducible first | apply c_seq | apply c_block | apply c_region | apply c_nil | apply c_ret | apply c_exit | apply c_skip)) | ((with_reducible first | apply e_then | apply e_then_ret | apply e_then_exit | apply e_in | apply e_in_ret | apply e_in_same)))
      rename_i bC bS bL
      repeat' (first | (apply o_appH (enc := encMD) (ys := [(⟨1, 0, 1, (some ⟨bC, 0, none⟩, 1, 1), (some ⟨bS, 0, none⟩, 1, 1)⟩ : MD)]); infer_instance; infer_instance; infer_instance; exact rfl; exact encMD_len; exact encMD_one; exact rfl; exact rfl; exact rfl; assumption; exact rL_; (exact fun w hw => SV.lit [(⟨1, 0, 1, (some ⟨bC, 0, none⟩, 1, 1), (some ⟨bS, 0, none⟩, 1, 1)⟩ : MD)] encMD_len hw (by exact aT_) rfl rfl (by decide)); (first | decide | (constructor <;> (try simp only [List.length_cons, List.length_nil]) <;> omega) | (constructor <;> simp <;> omega)); intro a_ cp_ N_ hO_; have oN_ := hO_.own; (try simp only [List.nil_append, List.append_assoc] at hO_); (try simp only [List.append_eq, List.append_assoc, List.cons_append, List.nil_append])) | ((with_reducible first | apply o_move | apply o_assign | apply o_faddr0); exact rfl; exact rfl) | ((with_reducible apply gdo_store); first | refine wo_store1 (h := ?_) | refine wo_storeA (h := ?_)) | ((with_reducible first | apply c_seq | apply c_block | apply c_region | apply c_nil | apply c_ret | apply c_exit | apply c_skip)) | ((with_reducible first | apply e_then | apply e_then_ret | apply e_then_exit | apply e_in | apply e_in_ret | apply e_in_same)))
      have s1 := shw_lit (b := bC) (e := 3) (k := 1) (n := 1) (enc := encI) [1] encI_len rfl rfl (by decide)
      have s2 := shw_lit (b := bS) (e := 70) (k := 2) (n := 1) (enc := encSh) [⟨3, 3⟩] encSh_len rfl rfl (by decide)
      have hN := shw_cons2 (R := MachV) (x := ⟨1, 0, 1, (some ⟨bC, 0, none⟩, 1, 1), (some ⟨bS, 0, none⟩, 1, 1)⟩) (y := ⟨1, 0, 1, [1], [⟨3, 3⟩]⟩) (Shw.mono (Shw.and (Shw.left s1) (Shw.right s2)) fun w h => ⟨rfl, rfl, rfl, h.1, h.2⟩) (shw_nil2 (N := []))
      have hS := more_ms rfl hO_ gI gP hl hMX hPX hN
      refine l_meetD (⟨⟨(a_, (ds ++ [(⟨1, 0, 1, (some ⟨bC, 0, none⟩, 1, 1), (some ⟨bS, 0, none⟩, 1, 1)⟩ : MD)]).length, cp_), (ai, p.items.length, ci), (ap, p.passes.length, cp), ds ++ [⟨1, 0, 1, (some ⟨bC, 0, none⟩, 1, 1), (some ⟨bS, 0, none⟩, 1, 1)⟩], ys⟩, ⟨p.ms ++ [(⟨1, 0, 1, [1], [⟨3, 3⟩]⟩ : Plt.Mach)], p.items, p.passes⟩, p.ms.length, 310, _ ++ (NI ++ (NP ++ (_ ++ NX)))⟩ : WSt) ⟨hS, Plt.bad_ms hvv (by omega) (.inr Plt.bad4), (show (310 : Int) ≠ 0 by decide), own4 oN_ oI oP (own_app (by simp) oX)⟩ rfl ?_ ?_
      · (try dsimp only [sdV]); exact fS_
      · (try dsimp only [sdV]); (try simp only [List.append_assoc, List.cons_append, List.nil_append]); exact hS_
    -- 5
    · repeat' (first | ((with_reducible apply c_cond_t); exact rfl; exact decide_eq_true (by omega)) | ((with_reducible apply c_cond_f); exact rfl; exact decide_eq_false (by omega)) | ((with_reducible first | apply o_move | apply o_assign | apply o_faddr0); exact rfl; exact rfl) | ((with_reducible apply gdo_load); first | refine wo_load (h := ?_) | refine wo_loadAll (h := ?_) | refine wo_loadC (h := ?_) | refine wo_ldV (h := ?_) | refine wo_ldF (h := ?_)) | ((with_reducible first | apply o_eql | apply o_neq | apply o_extract); exact rfl; exact rfl; exact rfl) | ((with_reducible apply gdo_build); first | refine wo_build (h := ?_)) | ((with_reducible apply o_len); infer_instance; exact rfl; exact rfl) | ((with_reducible apply gdo_buildSlice); refine wo_buildSlice (h := fun _ => ?_)) | ((with_reducible first | apply c_seq | apply c_block | apply c_region | apply c_nil | apply c_ret | apply c_exit | apply c_skip)) | ((with_reducible first | apply e_then | apply e_then_ret | apply e_then_exit | apply e_in | apply e_in_ret | apply e_in_same)))
      rename_i bC bL
      repeat' (first | (apply o_appH (enc := encMD) (ys := [(⟨1, 0, 1001, (some ⟨bC, 0, none⟩, 1, 1), (none, 0, 0)⟩ : MD)]); infer_instance; infer_instance; infer_instance; exact rfl; exact encMD_len; exact encMD_one; exact rfl; exact rfl; exact rfl; assumption; exact rL_; (exact fun w hw => SV.lit [(⟨1, 0, 1001, (some ⟨bC, 0, none⟩, 1, 1), (none, 0, 0)⟩ : MD)] encMD_len hw (by exact aT_) rfl rfl (by decide)); (first | decide | (constructor <;> (try simp only [List.length_cons, List.length_nil]) <;> omega) | (constructor <;> simp <;> omega)); intro a_ cp_ N_ hO_; have oN_ := hO_.own; (try simp only [List.nil_append, List.append_assoc] at hO_); (try simp only [List.append_eq, List.append_assoc, List.cons_append, List.nil_append])) | ((with_reducible first | apply o_move | apply o_assign | apply o_faddr0); exact rfl; exact rfl) | ((with_reducible apply gdo_store); first | refine wo_store1 (h := ?_) | refine wo_storeA (h := ?_)) | ((with_reducible first | apply c_seq | apply c_block | apply c_region | apply c_nil | apply c_ret | apply c_exit | apply c_skip)) | ((with_reducible first | apply e_then | apply e_then_ret | apply e_then_exit | apply e_in | apply e_in_ret | apply e_in_same)))
      have s1 := shw_lit (b := bC) (e := 3) (k := 1) (n := 1) (enc := encI) [1] encI_len rfl rfl (by decide)
      have hN := shw_cons2 (R := MachV) (x := ⟨1, 0, 1001, (some ⟨bC, 0, none⟩, 1, 1), (none, 0, 0)⟩) (y := ⟨1, 0, 1001, [1], []⟩) (Shw.mono s1 fun w h => ⟨rfl, rfl, rfl, h, SV.nil⟩) (shw_nil2 (N := []))
      have hS := more_ms rfl hO_ gI gP hl hMX hPX hN
      refine l_meetD (⟨⟨(a_, (ds ++ [(⟨1, 0, 1001, (some ⟨bC, 0, none⟩, 1, 1), (none, 0, 0)⟩ : MD)]).length, cp_), (ai, p.items.length, ci), (ap, p.passes.length, cp), ds ++ [⟨1, 0, 1001, (some ⟨bC, 0, none⟩, 1, 1), (none, 0, 0)⟩], ys⟩, ⟨p.ms ++ [(⟨1, 0, 1001, [1], []⟩ : Plt.Mach)], p.items, p.passes⟩, p.ms.length, 310, _ ++ (NI ++ (NP ++ (_ ++ NX)))⟩ : WSt) ⟨hS, Plt.bad_ms hvv (by omega) (.inr Plt.bad5), (show (310 : Int) ≠ 0 by decide), own4 oN_ oI oP (own_app (by simp) oX)⟩ rfl ?_ ?_
      · (try dsimp only [sdV]); exact fS_
      · (try dsimp only [sdV]); (try simp only [List.append_assoc, List.cons_append, List.nil_append]); exact hS_
    -- 6
    · repeat' (first | ((with_reducible apply c_cond_t); exact rfl; exact decide_eq_true (by omega)) | ((with_reducible apply c_cond_f); exact rfl; exact decide_eq_false (by omega)) | (apply o_appH (enc := encItem) (ys := [(⟨1, 0, 101⟩ : Plt.Item)]); infer_instance; infer_instance; infer_instance; exact rfl; exact encItem_len; exact encItem_one; exact rfl; exact rfl; exact rfl; assumption; exact rL_; (exact fun w hw => SV.lit [(⟨1, 0, 101⟩ : Plt.Item)] encItem_len hw (by exact aT_) rfl rfl (by decide)); (first | decide | (constructor <;> (try simp only [List.length_cons, List.length_nil]) <;> omega) | (constructor <;> simp <;> omega)); intro a_ cp_ N_ hO_; have oN_ := hO_.own; (try simp only [List.nil_append, List.append_assoc] at hO_); (try simp only [List.append_eq, List.append_assoc, List.cons_append, List.nil_append])) | ((with_reducible first | apply o_move | apply o_assign | apply o_faddr0); exact rfl; exact rfl) | ((with_reducible apply gdo_load); first | refine wo_load (h := ?_) | refine wo_loadAll (h := ?_) | refine wo_loadC (h := ?_) | refine wo_ldV (h := ?_) | refine wo_ldF (h := ?_)) | ((with_reducible first | apply o_eql | apply o_neq | apply o_extract); exact rfl; exact rfl; exact rfl) | ((with_reducible apply gdo_store); first | refine wo_store1 (h := ?_) | refine wo_storeA (h := ?_)) | ((with_reducible apply gdo_build); first | refine wo_build (h := ?_)) | ((with_reducible apply o_len); infer_instance; exact rfl; exact rfl) | ((with_reducible apply gdo_buildSlice); refine wo_buildSlice (h := fun _ => ?_)) | ((with_reducible first | apply c_seq | apply c_block | apply c_region | apply c_nil | apply c_ret | apply c_exit | apply c_skip)) | ((with_reducible first | apply e_then | apply e_then_ret | apply e_then_exit | apply e_in | apply e_in_ret | apply e_in_same)))
      have hS := more_it gM hO_ gP hl hMX hPX
      refine l_meetD (⟨⟨(some ⟨bM, oM', none⟩, p.ms.length, cm), (a_, (p.items ++ [(⟨1, 0, 101⟩ : Plt.Item)]).length, cp_), (ap, p.passes.length, cp), ds, ys⟩, ⟨p.ms, p.items ++ [⟨1, 0, 101⟩], p.passes⟩, p.items.length, 311, NM ++ (_ ++ (NP ++ NX))⟩ : WSt) ⟨hS, Plt.bad_it hvv (by omega) (by unfold Plt.Item.ok Plt.idOk; decide), (show (311 : Int) ≠ 0 by decide), own4 oM oN_ oP oX⟩ rfl ?_ ?_
      · (try dsimp only [sdV]); exact fS_
      · (try dsimp only [sdV]); (try simp only [List.append_assoc, List.cons_append, List.nil_append]); exact hS_
    -- 7
    · repeat' (first | ((with_reducible apply c_cond_t); exact rfl; exact decide_eq_true (by omega)) | ((with_reducible apply c_cond_f); exact rfl; exact decide_eq_false (by omega)) | ((with_reducible first | apply o_move | apply o_assign | apply o_faddr0); exact rfl; exact rfl) | ((with_reducible apply gdo_load); first | refine wo_load (h := ?_) | refine wo_loadAll (h := ?_) | refine wo_loadC (h := ?_) | refine wo_ldV (h := ?_) | refine wo_ldF (h := ?_)) | ((with_reducible first | apply o_eql | apply o_neq | apply o_extract); exact rfl; exact rfl; exact rfl) | ((with_reducible apply gdo_build); first | refine wo_build (h := ?_)) | ((with_reducible apply o_len); infer_instance; exact rfl; exact rfl) | ((with_reducible apply gdo_buildSlice); refine wo_buildSlice (h := fun _ => ?_)) | ((with_reducible first | apply c_seq | apply c_block | apply c_region | apply c_nil | apply c_ret | apply c_exit | apply c_skip)) | ((with_reducible first | apply e_then | apply e_then_ret | apply e_then_exit | apply e_in | apply e_in_ret | apply e_in_same)))
      rename_i bC bL
      repeat' (first | (apply o_appH (enc := encPD) (ys := [(⟨1, m.id, 0, (some ⟨bC, 0, none⟩, 1, 1), (none, 0, 0), (none, 0, 0)⟩ : PD)]); infer_instance; infer_instance; infer_instance; exact rfl; exact encPD_len; exact encPD_one; exact rfl; exact rfl; exact rfl; assumption; exact rL_; (exact fun w hw => SV.lit [(⟨1, m.id, 0, (some ⟨bC, 0, none⟩, 1, 1), (none, 0, 0), (none, 0, 0)⟩ : PD)] encPD_len hw (by exact aT_) rfl rfl (by decide)); (first | decide | (constructor <;> (try simp only [List.length_cons, List.length_nil]) <;> omega) | (constructor <;> simp <;> omega)); intro a_ cp_ N_ hO_; have oN_ := hO_.own; (try simp only [List.nil_append, List.append_assoc] at hO_); (try simp only [List.append_eq, List.append_assoc, List.cons_append, List.nil_append])) | ((with_reducible first | apply o_move | apply o_assign | apply o_faddr0); exact rfl; exact rfl) | ((with_reducible apply gdo_store); first | refine wo_store1 (h := ?_) | refine wo_storeA (h := ?_)) | ((with_reducible first | apply c_seq | apply c_block | apply c_region | apply c_nil | apply c_ret | apply c_exit | apply c_skip)) | ((with_reducible first | apply e_then | apply e_then_ret | apply e_then_exit | apply e_in | apply e_in_ret | apply e_in_same)))
      have hN := shw_cons2 (R := PassV) (x := ⟨1, m.id, 0, (some ⟨bC, 0, none⟩, 1, 1), (none, 0, 0), (none, 0, 0)⟩) (y := ⟨1, m.id, 0, [(1, 0)], [], []⟩) (Shw.mono (shw_lit (b := bC) (e := 64) (k := 2) (n := 1) (enc := encSrc) [(1, 0)] encSrc_len rfl rfl (by decide)) fun w h => ⟨rfl, rfl, rfl, h, SV.nil, SV.nil⟩) (shw_nil2 (N := []))
      have hS := more_ps rfl gM gI hO_ hl hMX hPX hN
      refine l_meetD (⟨⟨(some ⟨bM, oM', none⟩, p.ms.length, cm), (ai, p.items.length, ci), (a_, (ys ++ [(⟨1, m.id, 0, (some ⟨bC, 0, none⟩, 1, 1), (none, 0, 0), (none, 0, 0)⟩ : PD)]).length, cp_), ds, ys ++ [(⟨1, m.id, 0, (some ⟨bC, 0, none⟩, 1, 1), (none, 0, 0), (none, 0, 0)⟩ : PD)]⟩, ⟨p.ms, p.items, p.passes ++ [⟨1, m.id, 0, [(1, 0)], [], []⟩]⟩, p.passes.length, 312, NM ++ (NI ++ (_ ++ (_ ++ NX)))⟩ : WSt) ⟨hS, Plt.bad_ps hvv (by simp only [List.length_cons, List.length_nil]; omega) (Plt.bad7 hodd), (show (312 : Int) ≠ 0 by decide), own4 oM oI oN_ (own_app (by simp) oX)⟩ rfl ?_ ?_
      · (try dsimp only [sdV]); exact fS_
      · (try dsimp only [sdV]); (try simp only [List.append_assoc, List.cons_append, List.nil_append]); exact hS_
    -- 8
    · repeat' (first | ((with_reducible apply c_cond_t); exact rfl; exact decide_eq_true (by omega)) | ((with_reducible apply c_cond_f); exact rfl; exact decide_eq_false (by omega)) | ((with_reducible first | apply o_move | apply o_assign | apply o_faddr0); exact rfl; exact rfl) | ((with_reducible apply gdo_load); first | refine wo_load (h := ?_) | refine wo_loadAll (h := ?_) | refine wo_loadC (h := ?_) | refine wo_ldV (h := ?_) | refine wo_ldF (h := ?_)) | ((with_reducible first | apply o_eql | apply o_neq | apply o_extract); exact rfl; exact rfl; exact rfl) | ((with_reducible apply gdo_build); first | refine wo_build (h := ?_)) | ((with_reducible apply o_len); infer_instance; exact rfl; exact rfl) | ((with_reducible apply gdo_buildSlice); refine wo_buildSlice (h := fun _ => ?_)) | ((with_reducible first | apply c_seq | apply c_block | apply c_region | apply c_nil | apply c_ret | apply c_exit | apply c_skip)) | ((with_reducible first | apply e_then | apply e_then_ret | apply e_then_exit | apply e_in | apply e_in_ret | apply e_in_same)))
      rename_i bC bL
      repeat' (first | (apply o_appH (enc := encPD) (ys := [(⟨1, m.id, 0, (some ⟨bC, 0, none⟩, 2, 2), (none, 0, 0), (none, 0, 0)⟩ : PD)]); infer_instance; infer_instance; infer_instance; exact rfl; exact encPD_len; exact encPD_one; exact rfl; exact rfl; exact rfl; assumption; exact rL_; (exact fun w hw => SV.lit [(⟨1, m.id, 0, (some ⟨bC, 0, none⟩, 2, 2), (none, 0, 0), (none, 0, 0)⟩ : PD)] encPD_len hw (by exact aT_) rfl rfl (by decide)); (first | decide | (constructor <;> (try simp only [List.length_cons, List.length_nil]) <;> omega) | (constructor <;> simp <;> omega)); intro a_ cp_ N_ hO_; have oN_ := hO_.own; (try simp only [List.nil_append, List.append_assoc] at hO_); (try simp only [List.append_eq, List.append_assoc, List.cons_append, List.nil_append])) | ((with_reducible first | apply o_move | apply o_assign | apply o_faddr0); exact rfl; exact rfl) | ((with_reducible apply gdo_store); first | refine wo_store1 (h := ?_) | refine wo_storeA (h := ?_)) | ((with_reducible first | apply c_seq | apply c_block | apply c_region | apply c_nil | apply c_ret | apply c_exit | apply c_skip)) | ((with_reducible first | apply e_then | apply e_then_ret | apply e_then_exit | apply e_in | apply e_in_ret | apply e_in_same)))
      have hN := shw_cons2 (R := PassV) (x := ⟨1, m.id, 0, (some ⟨bC, 0, none⟩, 2, 2), (none, 0, 0), (none, 0, 0)⟩) (y := ⟨1, m.id, 0, [(0, 9), (0, 9)], [], []⟩) (Shw.mono (shw_lit (b := bC) (e := 64) (k := 2) (n := 2) (enc := encSrc) [(0, 9), (0, 9)] encSrc_len rfl rfl (by decide)) fun w h => ⟨rfl, rfl, rfl, h, SV.nil, SV.nil⟩) (shw_nil2 (N := []))
      have hS := more_ps rfl gM gI hO_ hl hMX hPX hN
      refine l_meetD (⟨⟨(some ⟨bM, oM', none⟩, p.ms.length, cm), (ai, p.items.length, ci), (a_, (ys ++ [(⟨1, m.id, 0, (some ⟨bC, 0, none⟩, 2, 2), (none, 0, 0), (none, 0, 0)⟩ : PD)]).length, cp_), ds, ys ++ [(⟨1, m.id, 0, (some ⟨bC, 0, none⟩, 2, 2), (none, 0, 0), (none, 0, 0)⟩ : PD)]⟩, ⟨p.ms, p.items, p.passes ++ [⟨1, m.id, 0, [(0, 9), (0, 9)], [], []⟩]⟩, p.passes.length, 312, NM ++ (NI ++ (_ ++ (_ ++ NX)))⟩ : WSt) ⟨hS, Plt.bad_ps hvv (by simp only [List.length_cons, List.length_nil]; omega) (Plt.bad8 hodd), (show (312 : Int) ≠ 0 by decide), own4 oM oI oN_ (own_app (by simp) oX)⟩ rfl ?_ ?_
      · (try dsimp only [sdV]); exact fS_
      · (try dsimp only [sdV]); (try simp only [List.append_assoc, List.cons_append, List.nil_append]); exact hS_
    -- 9
    · repeat' (first | ((with_reducible apply c_cond_t); exact rfl; exact decide_eq_true (by omega)) | ((with_reducible apply c_cond_f); exact rfl; exact decide_eq_false (by omega)) | ((with_reducible first | apply o_move | apply o_assign | apply o_faddr0); exact rfl; exact rfl) | ((with_reducible apply gdo_load); first | refine wo_load (h := ?_) | refine wo_loadAll (h := ?_) | refine wo_loadC (h := ?_) | refine wo_ldV (h := ?_) | refine wo_ldF (h := ?_)) | ((with_reducible first | apply o_eql | apply o_neq | apply o_extract); exact rfl; exact rfl; exact rfl) | ((with_reducible apply o_add); exact rfl; exact rfl; exact rfl; (constructor <;> omega)) | ((with_reducible apply gdo_build); first | refine wo_build (h := ?_)) | ((with_reducible apply o_len); infer_instance; exact rfl; exact rfl) | ((with_reducible apply gdo_buildSlice); refine wo_buildSlice (h := fun _ => ?_)) | ((with_reducible first | apply c_seq | apply c_block | apply c_region | apply c_nil | apply c_ret | apply c_exit | apply c_skip)) | ((with_reducible first | apply e_then | apply e_then_ret | apply e_then_exit | apply e_in | apply e_in_ret | apply e_in_same)))
      rename_i bC bL
      repeat' (first | (apply o_appH (enc := encPD); infer_instance; infer_instance; infer_instance; exact rfl; exact encPD_len; exact encPD_one; exact rfl; exact rfl; exact rfl; assumption; exact rL_; (exact fun w hw => (SV.lit [(⟨1, m.id, 0, (none, 0, 0), (none, 0, 0), (none, 0, 0)⟩ : PD), (⟨2, m.id, 0, (some ⟨bC, 0, none⟩, 1, 1), (none, 0, 0), (none, 0, 0)⟩ : PD)] encPD_len hw (by exact aT_) rfl rfl (by decide))); (first | decide | (constructor <;> (try simp only [List.length_cons, List.length_nil]) <;> omega) | (constructor <;> simp <;> omega)); intro a_ cp_ N_ hO_; have oN_ := hO_.own; (try simp only [List.nil_append, List.append_assoc] at hO_); (try simp only [List.append_eq, List.append_assoc, List.cons_append, List.nil_append])) | ((with_reducible first | apply o_move | apply o_assign | apply o_faddr0); exact rfl; exact rfl) | ((with_reducible apply gdo_store); first | refine wo_store1 (h := ?_) | refine wo_storeA (h := ?_)) | ((with_reducible first | apply c_seq | apply c_block | apply c_region | apply c_nil | apply c_ret | apply c_exit | apply c_skip)) | ((with_reducible first | apply e_then | apply e_then_ret | apply e_then_exit | apply e_in | apply e_in_ret | apply e_in_same)))
      have hN := shw_cons2 (R := PassV) (x := ⟨1, m.id, 0, (none, 0, 0), (none, 0, 0), (none, 0, 0)⟩) (y := ⟨1, m.id, 0, [], [], []⟩) (fun _ w _ _ _ _ => ⟨rfl, rfl, rfl, SV.nil, SV.nil, SV.nil⟩ : Shw [] fun w => PassV w ⟨1, m.id, 0, (none, 0, 0), (none, 0, 0), (none, 0, 0)⟩ ⟨1, m.id, 0, [], [], []⟩) (shw_cons2 (R := PassV) (x := ⟨2, m.id, 0, (some ⟨bC, 0, none⟩, 1, 1), (none, 0, 0), (none, 0, 0)⟩) (y := ⟨2, m.id, 0, [(1, (m.caps.length : Int))], [], []⟩) (Shw.mono (shw_lit (b := bC) (e := 64) (k := 2) (n := 1) (enc := encSrc) [(1, (m.caps.length : Int))] encSrc_len rfl rfl (by decide)) fun w h => ⟨rfl, rfl, rfl, h, SV.nil, SV.nil⟩) (shw_nil2 (N := [])))
      have hS := more_ps rfl gM gI hO_ hl hMX hPX hN
      refine l_meetD (⟨⟨(some ⟨bM, oM', none⟩, p.ms.length, cm), (ai, p.items.length, ci), (a_, (ys ++ [(⟨1, m.id, 0, (none, 0, 0), (none, 0, 0), (none, 0, 0)⟩ : PD), (⟨2, m.id, 0, (some ⟨bC, 0, none⟩, 1, 1), (none, 0, 0), (none, 0, 0)⟩ : PD)]).length, cp_), ds, ys ++ [(⟨1, m.id, 0, (none, 0, 0), (none, 0, 0), (none, 0, 0)⟩ : PD), (⟨2, m.id, 0, (some ⟨bC, 0, none⟩, 1, 1), (none, 0, 0), (none, 0, 0)⟩ : PD)]⟩, ⟨p.ms, p.items, p.passes ++ [⟨1, m.id, 0, [], [], []⟩, ⟨2, m.id, 0, [(1, (m.caps.length : Int))], [], []⟩]⟩, p.passes.length + 1, 312, NM ++ (NI ++ (_ ++ (_ ++ NX)))⟩ : WSt) ⟨hS, Plt.bad_ps hvv (by simp only [List.length_cons, List.length_nil]; omega) (Plt.bad9 hodd), (show (312 : Int) ≠ 0 by decide), own4 oM oI oN_ (own_app (by simp) oX)⟩ rfl ?_ ?_
      · (try dsimp only [sdV]); exact fS_
      · (try dsimp only [sdV]); (try simp only [List.append_assoc, List.cons_append, List.nil_append]); exact hS_
    -- 10
    · repeat' (first | ((with_reducible apply c_cond_t); exact rfl; exact decide_eq_true (by omega)) | ((with_reducible apply c_cond_f); exact rfl; exact decide_eq_false (by omega)) | ((with_reducible first | apply o_move | apply o_assign | apply o_faddr0); exact rfl; exact rfl) | ((with_reducible apply gdo_load); first | refine wo_load (h := ?_) | refine wo_loadAll (h := ?_) | refine wo_loadC (h := ?_) | refine wo_ldV (h := ?_) | refine wo_ldF (h := ?_)) | ((with_reducible first | apply o_eql | apply o_neq | apply o_extract); exact rfl; exact rfl; exact rfl) | ((with_reducible apply o_add); exact rfl; exact rfl; exact rfl; (constructor <;> omega)) | ((with_reducible apply gdo_build); first | refine wo_build (h := ?_)) | ((with_reducible apply o_len); infer_instance; exact rfl; exact rfl) | ((with_reducible apply gdo_buildSlice); refine wo_buildSlice (h := fun _ => ?_)) | ((with_reducible first | apply c_seq | apply c_block | apply c_region | apply c_nil | apply c_ret | apply c_exit | apply c_skip)) | ((with_reducible first | apply e_then | apply e_then_ret | apply e_then_exit | apply e_in | apply e_in_ret | apply e_in_same)))
      rename_i bC bD bL
      repeat' (first | (apply o_appH (enc := encPD); infer_instance; infer_instance; infer_instance; exact rfl; exact encPD_len; exact encPD_one; exact rfl; exact rfl; exact rfl; assumption; exact rL_; (exact fun w hw => (SV.lit [(⟨1, m.id, 0, (none, 0, 0), (none, 0, 0), (none, 0, 0)⟩ : PD), (⟨2, m.id, 0, (some ⟨bC, 0, none⟩, 1, 1), (none, 0, 0), (none, 0, 0)⟩ : PD), (⟨3, m.id, 0, (some ⟨bD, 0, none⟩, 1, 1), (none, 0, 0), (none, 0, 0)⟩ : PD)] encPD_len hw (by exact aT_) rfl rfl (by decide))); (first | decide | (constructor <;> (try simp only [List.length_cons, List.length_nil]) <;> omega) | (constructor <;> simp <;> omega)); intro a_ cp_ N_ hO_; have oN_ := hO_.own; (try simp only [List.nil_append, List.append_assoc] at hO_); (try simp only [List.append_eq, List.append_assoc, List.cons_append, List.nil_append])) | ((with_reducible first | apply o_move | apply o_assign | apply o_faddr0); exact rfl; exact rfl) | ((with_reducible apply gdo_store); first | refine wo_store1 (h := ?_) | refine wo_storeA (h := ?_)) | ((with_reducible first | apply c_seq | apply c_block | apply c_region | apply c_nil | apply c_ret | apply c_exit | apply c_skip)) | ((with_reducible first | apply e_then | apply e_then_ret | apply e_then_exit | apply e_in | apply e_in_ret | apply e_in_same)))
      have hN := shw_cons2 (R := PassV) (x := ⟨1, m.id, 0, (none, 0, 0), (none, 0, 0), (none, 0, 0)⟩) (y := ⟨1, m.id, 0, [], [], []⟩) (fun _ w _ _ _ _ => ⟨rfl, rfl, rfl, SV.nil, SV.nil, SV.nil⟩ : Shw [] fun w => PassV w ⟨1, m.id, 0, (none, 0, 0), (none, 0, 0), (none, 0, 0)⟩ ⟨1, m.id, 0, [], [], []⟩) (shw_cons2 (R := PassV) (x := ⟨2, m.id, 0, (some ⟨bC, 0, none⟩, 1, 1), (none, 0, 0), (none, 0, 0)⟩) (y := ⟨2, m.id, 0, [(1, 0)], [], []⟩) (Shw.mono (shw_lit (b := bC) (e := 64) (k := 2) (n := 1) (enc := encSrc) [(1, 0)] encSrc_len rfl rfl (by decide)) fun w h => ⟨rfl, rfl, rfl, h, SV.nil, SV.nil⟩) (shw_cons2 (R := PassV) (x := ⟨3, m.id, 0, (some ⟨bD, 0, none⟩, 1, 1), (none, 0, 0), (none, 0, 0)⟩) (y := ⟨3, m.id, 0, [(1, 0)], [], []⟩) (Shw.mono (shw_lit (b := bD) (e := 64) (k := 2) (n := 1) (enc := encSrc) [(1, 0)] encSrc_len rfl rfl (by decide)) fun w h => ⟨rfl, rfl, rfl, h, SV.nil, SV.nil⟩) (shw_nil2 (N := []))))
      have hS := more_ps rfl gM gI hO_ hl hMX hPX hN
      refine l_meetD (⟨⟨(some ⟨bM, oM', none⟩, p.ms.length, cm), (ai, p.items.length, ci), (a_, (ys ++ [(⟨1, m.id, 0, (none, 0, 0), (none, 0, 0), (none, 0, 0)⟩ : PD), (⟨2, m.id, 0, (some ⟨bC, 0, none⟩, 1, 1), (none, 0, 0), (none, 0, 0)⟩ : PD), (⟨3, m.id, 0, (some ⟨bD, 0, none⟩, 1, 1), (none, 0, 0), (none, 0, 0)⟩ : PD)]).length, cp_), ds, ys ++ [(⟨1, m.id, 0, (none, 0, 0), (none, 0, 0), (none, 0, 0)⟩ : PD), (⟨2, m.id, 0, (some ⟨bC, 0, none⟩, 1, 1), (none, 0, 0), (none, 0, 0)⟩ : PD), (⟨3, m.id, 0, (some ⟨bD, 0, none⟩, 1, 1), (none, 0, 0), (none, 0, 0)⟩ : PD)]⟩, ⟨p.ms, p.items, p.passes ++ [⟨1, m.id, 0, [], [], []⟩, ⟨2, m.id, 0, [(1, 0)], [], []⟩, ⟨3, m.id, 0, [(1, 0)], [], []⟩]⟩, p.passes.length + 2, 312, NM ++ (NI ++ (_ ++ (_ ++ NX)))⟩ : WSt) ⟨hS, Plt.bad_ps hvv (by simp only [List.length_cons, List.length_nil]; omega) (Plt.bad10 hodd), (show (312 : Int) ≠ 0 by decide), own4 oM oI oN_ (own_app (by simp) oX)⟩ rfl ?_ ?_
      · (try dsimp only [sdV]); exact fS_
      · (try dsimp only [sdV]); (try simp only [List.append_assoc, List.cons_append, List.nil_append]); exact hS_
    -- 11
    · repeat' (first | ((with_reducible apply c_cond_t); exact rfl; exact decide_eq_true (by omega)) | ((with_reducible apply c_cond_f); exact rfl; exact decide_eq_false (by omega)) | ((with_reducible first | apply o_move | apply o_assign | apply o_faddr0); exact rfl; exact rfl) | ((with_reducible apply gdo_load); first | refine wo_load (h := ?_) | refine wo_loadAll (h := ?_) | refine wo_loadC (h := ?_) | refine wo_ldV (h := ?_) | refine wo_ldF (h := ?_)) | ((with_reducible first | apply o_eql | apply o_neq | apply o_extract); exact rfl; exact rfl; exact rfl) | ((with_reducible apply gdo_build); first | refine wo_build (h := ?_)) | ((with_reducible apply o_len); infer_instance; exact rfl; exact rfl) | ((with_reducible apply gdo_buildSlice); refine wo_buildSlice (h := fun _ => ?_)) | ((with_reducible first | apply c_seq | apply c_block | apply c_region | apply c_nil | apply c_ret | apply c_exit | apply c_skip)) | ((with_reducible first | apply e_then | apply e_then_ret | apply e_then_exit | apply e_in | apply e_in_ret | apply e_in_same)))
      rename_i bC bL
      repeat' (first | (apply o_appH (enc := encPD) (ys := [(⟨1, m.id, 0, (none, 0, 0), (some ⟨bC, 0, none⟩, 2, 2), (none, 0, 0)⟩ : PD)]); infer_instance; infer_instance; infer_instance; exact rfl; exact encPD_len; exact encPD_one; exact rfl; exact rfl; exact rfl; assumption; exact rL_; (exact fun w hw => SV.lit [(⟨1, m.id, 0, (none, 0, 0), (some ⟨bC, 0, none⟩, 2, 2), (none, 0, 0)⟩ : PD)] encPD_len hw (by exact aT_) rfl rfl (by decide)); (first | decide | (constructor <;> (try simp only [List.length_cons, List.length_nil]) <;> omega) | (constructor <;> simp <;> omega)); intro a_ cp_ N_ hO_; have oN_ := hO_.own; (try simp only [List.nil_append, List.append_assoc] at hO_); (try simp only [List.append_eq, List.append_assoc, List.cons_append, List.nil_append])) | ((with_reducible first | apply o_move | apply o_assign | apply o_faddr0); exact rfl; exact rfl) | ((with_reducible apply gdo_store); first | refine wo_store1 (h := ?_) | refine wo_storeA (h := ?_)) | ((with_reducible first | apply c_seq | apply c_block | apply c_region | apply c_nil | apply c_ret | apply c_exit | apply c_skip)) | ((with_reducible first | apply e_then | apply e_then_ret | apply e_then_exit | apply e_in | apply e_in_ret | apply e_in_same)))
      have hN := shw_cons2 (R := PassV) (x := ⟨1, m.id, 0, (none, 0, 0), (some ⟨bC, 0, none⟩, 2, 2), (none, 0, 0)⟩) (y := ⟨1, m.id, 0, [], [⟨4, 0⟩, ⟨4, 0⟩], []⟩) (Shw.mono (shw_lit (b := bC) (e := 76) (k := 2) (n := 2) (enc := encRow) [⟨4, 0⟩, ⟨4, 0⟩] encRow_len rfl rfl (by decide)) fun w h => ⟨rfl, rfl, rfl, SV.nil, h, SV.nil⟩) (shw_nil2 (N := []))
      have hS := more_ps rfl gM gI hO_ hl hMX hPX hN
      refine l_meetD (⟨⟨(some ⟨bM, oM', none⟩, p.ms.length, cm), (ai, p.items.length, ci), (a_, (ys ++ [(⟨1, m.id, 0, (none, 0, 0), (some ⟨bC, 0, none⟩, 2, 2), (none, 0, 0)⟩ : PD)]).length, cp_), ds, ys ++ [(⟨1, m.id, 0, (none, 0, 0), (some ⟨bC, 0, none⟩, 2, 2), (none, 0, 0)⟩ : PD)]⟩, ⟨p.ms, p.items, p.passes ++ [⟨1, m.id, 0, [], [⟨4, 0⟩, ⟨4, 0⟩], []⟩]⟩, p.passes.length, 312, NM ++ (NI ++ (_ ++ (_ ++ NX)))⟩ : WSt) ⟨hS, Plt.bad_ps hvv (by simp only [List.length_cons, List.length_nil]; omega) (Plt.bad11 hodd), (show (312 : Int) ≠ 0 by decide), own4 oM oI oN_ (own_app (by simp) oX)⟩ rfl ?_ ?_
      · (try dsimp only [sdV]); exact fS_
      · (try dsimp only [sdV]); (try simp only [List.append_assoc, List.cons_append, List.nil_append]); exact hS_
  · rintro ⟨⟨⟨a1, n1, c1⟩, ⟨a2, n2, c2⟩, ⟨a3, n3, c3⟩, ds', ys'⟩, q, pos, want, N⟩ ⟨hQ, hval, hw0, oN⟩
    dsimp only [sdV] at hQ hval hw0 oN ⊢
    repeat' (first | ((with_reducible apply c_cond_f); exact rfl; exact decide_eq_false (by omega)) | ((with_reducible apply o_pick_f); exact rfl; exact decide_eq_false (by omega); exact rfl; exact rfl) | ((with_reducible apply g_run); exact rfl; exact decide_eq_false (by omega)) | ((first | ((with_reducible apply o_call_pure (f := 12)); exact rfl) | ((with_reducible apply q_call_pure (f := 12)); exact rfl; kernel_rfl; exact rfl; exact sJ_)); exact eV_; exact (fun w hw => valid_is hval w (hQ _ _ _ _ (by exact rL_) hw))) | ((first | ((with_reducible apply o_call_pure (f := 11)); exact rfl) | ((with_reducible apply q_call_pure (f := 11)); exact rfl; kernel_rfl; exact rfl; exact sJ_)); exact eV_; exact (fun w hw => play_wrong hval hw0 w (hQ _ _ _ _ (by exact rL_) hw))) | ((first | ((with_reducible apply o_call_pure (f := 13)); exact rfl) | ((with_reducible apply q_call_pure (f := 13)); exact rfl; kernel_rfl; exact rfl; exact sJ_)); exact eV_; exact (fun w hw => where_wrong hval hw0 w (hQ _ _ _ _ (by exact rL_) hw))) | ((first | ((with_reducible apply o_call_new (f := 10)); exact rfl) | ((with_reducible apply q_call_new (f := 10)); exact rfl; exact rfl; exact sJ_)); exact eV_; exact (fun w hw => hbt w _ hw (by exact aO_)); rintro v NB2 ⟨am2, cm2, ai2, ci2, ap2, cp2, ds2, ys2, NM2, NI2, NP2, NX2, rfl, ⟨gM2, gI2, gP2⟩, ⟨rfl, oX2⟩, hl2, hMX2, hPX2⟩ <;> (try simp only [List.cons_append, List.nil_append, List.append_assoc])) | (apply o_appH (enc := encItem) (ys := [(⟨1, 0, 1⟩ : Plt.Item)]); infer_instance; infer_instance; infer_instance; exact rfl; exact encItem_len; exact encItem_one; exact rfl; exact rfl; exact rfl; assumption; exact rL_; (exact fun w hw => SV.lit [(⟨1, 0, 1⟩ : Plt.Item)] encItem_len hw (by exact aT_) rfl rfl (by decide)); (first | decide | (constructor <;> (try simp only [List.length_cons, List.length_nil]) <;> omega) | (constructor <;> simp <;> omega)); intro a_ cp_ N_ hO_; have oN_ := hO_.own; (try simp only [List.nil_append, List.append_assoc] at hO_); (try simp only [List.append_eq, List.append_assoc, List.cons_append, List.nil_append])) | ((with_reducible first | apply o_move | apply o_assign | apply o_faddr0); exact rfl; exact rfl) | ((with_reducible apply gdo_load); first | refine wo_load (h := ?_) | refine wo_loadAll (h := ?_) | refine wo_loadC (h := ?_) | refine wo_ldV (h := ?_) | refine wo_ldF (h := ?_)) | ((with_reducible first | apply o_eql | apply o_neq | apply o_extract); exact rfl; exact rfl; exact rfl) | ((with_reducible apply o_alloc); exact rfl; intro _) | ((with_reducible apply gdo_store); first | refine wo_store1 (h := ?_) | refine wo_storeA (h := ?_)) | ((with_reducible apply gdo_build); first | refine wo_build (h := ?_)) | ((with_reducible apply gdo_buildSlice); refine wo_buildSlice (h := fun _ => ?_)) | ((with_reducible first | apply c_seq | apply c_block | apply c_region | apply c_nil | apply c_ret | apply c_exit | apply c_skip)) | ((with_reducible first | apply e_then | apply e_then_ret | apply e_then_exit | apply e_in | apply e_in_ret | apply e_in_same)))
    have oM2 := gM2.own
    have oP2 := gP2.own
    have hB2 := more_it gM2 hO_ gP2 hl2 hMX2 hPX2
    repeat' (first | ((with_reducible apply o_pick_t); exact rfl; exact decide_eq_true (by omega); exact rfl; exact rfl) | ((with_reducible apply g_run); exact rfl; exact decide_eq_true (by omega)) | ((first | ((with_reducible apply o_call_pure (f := 13)); exact rfl) | ((with_reducible apply q_call_pure (f := 13)); exact rfl; kernel_rfl; exact rfl; exact sJ_)); exact eV_; exact (fun w hw => where_calls hcalm2 q0 w (hB2 _ _ _ _ (remL_app4 (by exact rL_) (by exact rL_) (by exact rL_) (by exact rL_)) hw))) | ((first | ((with_reducible apply o_call_pure (f := 13)); exact rfl) | ((with_reducible apply q_call_pure (f := 13)); exact rfl; kernel_rfl; exact rfl; exact sJ_)); exact eV_; exact (fun w hw => where_calls hcalm2 q1 w (hB2 _ _ _ _ (remL_app4 (by exact rL_) (by exact rL_) (by exact rL_) (by exact rL_)) hw))) | ((first | ((with_reducible apply o_call_pure (f := 13)); exact rfl) | ((with_reducible apply q_call_pure (f := 13)); exact rfl; kernel_rfl; exact rfl; exact sJ_)); exact eV_; exact (fun w hw => where_calls hcalm2 q2 w (hB2 _ _ _ _ (remL_app4 (by exact rL_) (by exact rL_) (by exact rL_) (by exact rL_)) hw))) | ((first | ((with_reducible apply o_call_pure (f := 13)); exact rfl) | ((with_reducible apply q_call_pure (f := 13)); exact rfl; kernel_rfl; exact rfl; exact sJ_)); exact eV_; exact (fun w hw => where_calls hcalm2 q3 w (hB2 _ _ _ _ (remL_app4 (by exact rL_) (by exact rL_) (by exact rL_) (by exact rL_)) hw))) | ((first | ((with_reducible apply o_call_pure (f := 16)); exact rfl) | ((with_reducible apply q_call_pure (f := 16)); exact rfl; kernel_rfl; exact rfl; exact sJ_)); exact eV_; exact (fun w _ => awake_calls w)) | ((with_reducible first | apply o_move | apply o_assign | apply o_faddr0); exact rfl; exact rfl) | ((with_reducible apply gdo_load); first | refine wo_load (h := ?_) | refine wo_loadAll (h := ?_) | refine wo_loadC (h := ?_) | refine wo_ldV (h := ?_) | refine wo_ldF (h := ?_)) | ((with_reducible first | apply o_eql | apply o_neq | apply o_extract); exact rfl; exact rfl; exact rfl) | ((with_reducible apply o_alloc); exact rfl; intro _) | ((with_reducible apply gdo_store); first | refine wo_store1 (h := ?_) | refine wo_storeA (h := ?_)) | ((with_reducible first | apply c_seq | apply c_block | apply c_region | apply c_nil | apply c_ret | apply c_exit | apply c_skip)) | ((with_reducible first | apply e_then | apply e_then_ret | apply e_then_exit | apply e_in | apply e_in_ret | apply e_in_same)))
    apply r_body; apply res1 Try.results8; exact rV_; intro w' hw
    exact ⟨rfl, hw.below (show AO _ from by exact aO_)⟩
end Go.Proofs.Ytkhaemjoekfhiaa
namespace Go.Proofs.Ytkhaemjoekfhiaa
open Go Go.ChangeShapes Go.WideShapes Go.ChangeAt Go.RowKit Go.Sx
theorem own : ownKnob Try.prog.godebug = none := by kernel_rfl
theorem laidOut : laidOutB Try.prog = true := by kernel_rfl
theorem cellsB : Try.prog.cellsOf 5 = 1 := by kernel_rfl
section
variable {H : Type} {enc : TypeId × Value → H} {w : World}
set_option maxRecDepth 100000 in
theorem arg_u8 {r : Reach} {b0 : Nat} {v : Value} {d : DataW H} {ps : List MemPlace} (hv : Value.okWide Try.prog w r b0 5 v) (h : DataW.Trod enc Try.prog w 0 (fun _ => true) true 5 v d ps) : ∃ n, v = .int .u8 n ∧ (0 ≤ n ∧ n ≤ 255) := by
  obtain ⟨n, rfl, _, _, hw⟩ := open_int Try.underlying5 hv h
  refine ⟨n, rfl, ?_⟩
  simp only [Lit.wf, Bool.and_eq_true, decide_eq_true_eq] at hw
  exact hw
set_option maxRecDepth 100000 in
theorem rd_byte {cs : List Value} (h : Rd enc Try.prog w 5 cs) : ∃ x : UInt8, cs = encB x ∧ True := by
  obtain ⟨n, rfl, hw⟩ := Rd.int Try.underlying5 h
  simp only [Lit.wf, Bool.and_eq_true, decide_eq_true_eq] at hw
  have h0 : 0 ≤ n := hw.1
  have h1 : n ≤ 255 := hw.2
  refine ⟨UInt8.ofNat n.toNat, ?_, trivial⟩
  unfold encB
  have : (UInt8.ofNat n.toNat).toNat = n.toNat := by
    rw [UInt8.toNat_ofNat']
    omega
  rw [this]
  congr 2
  omega
theorem cellsTSK : Try.prog.cellsOf 24 = 4 := by kernel_rfl
theorem cellsTBYTES : Try.prog.cellsOf 22 = 1 := by kernel_rfl
theorem list4 {α : Type} {l : List α} (h : l.length = 4) : ∃ a b c d, l = [a, b, c, d] := by
  match l, h with
  | [a, b, c, d], _ => exact ⟨a, b, c, d, rfl⟩
set_option maxRecDepth 100000 in
theorem arg_sketch {r : Reach} {b0 : Nat} {v : Value} {d : DataW H} {ps : List MemPlace} (hv : Value.okWide Try.prog w r b0 24 v) (h : DataW.Trod enc Try.prog w 0 (fun _ => true) true 24 v d ps) :
    ∃ v0 v1 v2 v3, ∃ x : Plt.Sk, v = .agg #[v0, v1, v2, v3] ∧ SV w 1 encB v0 x.ms ∧ SV w 1 encB v1 x.shs ∧ SV w 1 encB v2 x.its ∧ SV w 1 encB v3 x.ps := by
  obtain ⟨cs, rfl, _⟩ := okWide_struct Try.underlying24 hv
  obtain ⟨hl, hf⟩ := (Rd.of h).struct Try.underlying24
  rw [cellsTSK] at hl
  simp only [Value.cells] at hl hf
  obtain ⟨a, b, c, e, hab⟩ := list4 hl
  rw [hab] at hf
  obtain ⟨a', xa, ha, wa, _⟩ := rd_slice (good := fun _ => True) Try.underlying22 cellsB (by decide) encB_len (fun cs h => rd_byte h) (hf 0 _ rfl)
  obtain ⟨b', xb, hb, wb, _⟩ := rd_slice (good := fun _ => True) Try.underlying22 cellsB (by decide) encB_len (fun cs h => rd_byte h) (hf 1 _ rfl)
  obtain ⟨c', xc, hc, wc, _⟩ := rd_slice (good := fun _ => True) Try.underlying22 cellsB (by decide) encB_len (fun cs h => rd_byte h) (hf 2 _ rfl)
  obtain ⟨e', xe, he, we, _⟩ := rd_slice (good := fun _ => True) Try.underlying22 cellsB (by decide) encB_len (fun cs h => rd_byte h) (hf 3 _ rfl)
  obtain rfl : a = a' := by simpa [cellsTBYTES] using ha
  obtain rfl : b = b' := by simpa [cellsTBYTES] using hb
  obtain rfl : c = c' := by simpa [cellsTBYTES] using hc
  obtain rfl : e = e' := by simpa [cellsTBYTES] using he
  refine ⟨a, b, c, e, ⟨xa, xb, xc, xe⟩, ?_, wa, wb, wc, we⟩
  rw [show cs = #[a, b, c, e] from by rw [← Array.toArray_toList (xs := cs), hab]]
end
end Go.Proofs.Ytkhaemjoekfhiaa
namespace Go.Proofs.Ytkhaemjoekfhiaa
open Go Go.ChangeShapes Go.WideShapes Go.ChangeAt Go.RowKit Go.Sx
set_option maxRecDepth 100000 in
theorem plantWrong_lifted (os : Os) (started : os.Started) (H : Type) (enc : TypeId × Value → H) :
    ReturnsInHanded {} Try.checked os 8 .any (Rows.plantWrongSpec.pre6 enc Try.prog Try.f8 Rows.plantWrongRow.domain false) (Rows.plantWrongSpec.post enc Try.prog Try.f8 false true false false) := by
  refine returnsInHanded_of_change (C := Try.checked) own started (by kernel_rfl) Try.func8
    (ChangeSpec.witness6 (enc := enc) (C := Try.checked) false ⟨#[], #[.agg #[.slice none 0 0, .slice none 0 0, .slice none 0 0, .slice none 0 0], .int .u8 0], []⟩ 8 (by kernel_rfl) (by kernel_rfl) (by kernel_rfl) (by kernel_rfl)) ?_
  intro W base args ds gs before hval0 hW hcnd _
  have hval : ∀ (j : Nat) t v, Try.f8.params[j]? = some t → args[j]? = some v → Value.okWide Try.prog W .any base t v := hval0
  have hW' := hW
  obtain ⟨p, q, hA0, hV, rfl, hfz, hnd⟩ := hW
  have hA : DataW.TrodAll enc Try.prog W 0 (fun _ => true) true Try.f8.params.toList args.toList ds p := hA0
  rw [Try.params8] at hA hval
  obtain ⟨v0, vs0, d0, ds0, p0, q0, hargs, rfl, rfl, h0, r0⟩ := trodAll_cons hA
  obtain ⟨v1, vs1, d1, ds1, p1, q1, rfl, rfl, rfl, h1, r1⟩ := trodAll_cons r0
  obtain ⟨rfl, rfl, rfl⟩ := trodAll_nil r1
  obtain rfl : args = #[v0, v1] := by cases args; simp_all
  obtain ⟨rfl, rfl⟩ := trodVars_none hV
  have lt0 := Rd.lt h0
  have hv0 := hval 0 24 v0 rfl rfl
  have lt1 := Rd.lt h1
  have hv1 := hval 1 5 v1 rfl rfl
  clear hA0 hval0
  obtain ⟨c0, c1, c2, c3, x, rfl, s0, s1, s2, s3⟩ := arg_sketch hv0 h0
  obtain ⟨n1, rfl, ha1⟩ := arg_u8 hv1 h1
  refine (wrong31_calls W s0 s1 s2 s3 ha1).mono fun e W' ⟨he, bel⟩ => ?_
  subst he
  exact ⟨_, rfl, _, _, _, [], _, [], hW', trodAll_mk1 (shut_bool Try.underlying4 _), (trodAll_cons_mk (Below.trod laidOut (by kernel_rfl) (of_decide_eq_true (by kernel_rfl)) h0 bel lt0) (trodAll_cons_mk (Below.trod laidOut (by kernel_rfl) (of_decide_eq_true (by kernel_rfl)) h1 bel lt1) trodAll_mk0)), rfl, bel.frame _, fun h => by cases h⟩
theorem plantWrong_proved : Rows.PlantWrongSaid :=
  OpenClaim.holds_of_wide 8 Try.f8 rfl rfl rfl rfl rfl rfl rfl ⟨rfl, rfl, rfl, rfl, rfl⟩ rfl rfl rfl rfl rfl (by kernel_rfl) Try.func8 (by kernel_rfl)
    (of_decide_eq_true (by kernel_rfl)) (by unfold Func.isWrapper; first | (rw [if_pos (by decide +kernel)]; kernel_rfl) | (rw [if_neg (by decide +kernel)]; exact ⟨rfl, rfl⟩))
    (fun os started H enc _ => plantWrong_lifted os started H enc)
end Go.Proofs.Ytkhaemjoekfhiaa
