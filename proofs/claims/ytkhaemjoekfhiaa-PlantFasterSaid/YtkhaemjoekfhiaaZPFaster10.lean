/-
  PlantFaster: whatever the plant in small numbers and the numbers that its rates grow by, the law returns true, and its arguments read as they did. Conditions: none.
-/
import Derived.Test.YtkhaemjoekfhiaaZPFaster3
import Derived.Test.YtkhaemjoekfhiaaZPFaster9
import Derived.Test.YtkhaemjoekfhiaaZPFaster8
import Derived.Test.YtkhaemjoekfhiaaZPFaster2
set_option linter.unusedSimpArgs false
set_option linter.unusedVariables false
set_option linter.unusedSectionVars false
namespace Go.Sx.Plt
def ofBatch (items : List Item) (s : Int × Int) : List Int := if s.1 = 0 then (items.filter fun x => x.batch = s.2).map Item.id else []
def ofRun (s : Int × Int) (r : Run) : List Int := if r.pass = s.1 ∧ s.2 < r.res.stackers.length then r.res.stackers.getD s.2.toNat [] else []
/-- The items of some sources. -/
def takenF (items : List Item) (runs : List Run) (src : List (Int × Int)) : List Int := src.flatMap fun s => ofBatch items s ++ runs.flatMap (ofRun s)
theorem flatMap_snoc' {α β : Type} {l : List α} {j : Nat} {x : α} (f : α → List β) (h : l[j]? = some x) : (l.take (j + 1)).flatMap f = (l.take j).flatMap f ++ f x := by
  rw [Go.Proofs.Ytkhaemjoekfhiaa.take_snoc h, List.flatMap_append]; simp
end Go.Sx.Plt
namespace Go.Proofs.Ytkhaemjoekfhiaa
open Go Go.Sx Go.RowKit
attribute [local irreducible] WL WC WQ WR WB WF QB St Exit.then Exit.inBlock Exit.noGoto bodyPost roundPost beginK YR RG BM Calls B AgainD MeetD
/-! ## the items of the sources of a pass -/
def takenφ (T : List Int) (v : Value) (N : List Ent) : Prop := ∃ a c, v = .slice a T.length c ∧ OW 3 1 encI (.slice a T.length c) T N
end Go.Proofs.Ytkhaemjoekfhiaa
namespace Go.Sx.Plt
open Go.Proofs.Ytkhaemjoekfhiaa (mslF_keys psF tkF psF_snoc tkF_snoc)
theorem machsBad_of : ∀ {l : List Mach} {met : List Int} {i : Nat}, (l.map Mach.id).Nodup → (∀ m ∈ l, m.id ∉ met ∧ rightM m) → machsBad met i l = none
  | [], _, _, _, _ => rfl
  | m :: r, met, i, hn, h => by
    rw [List.map_cons, List.nodup_cons] at hn
    rw [machsBad, if_pos (h m List.mem_cons_self)]
    refine machsBad_of hn.2 fun x hx => ⟨fun hm => ?_, (h x (List.mem_cons_of_mem _ hx)).2⟩
    rcases List.mem_append.1 hm with hm | hm
    · exact (h x (List.mem_cons_of_mem _ hx)).1 hm
    · simp at hm
      exact hn.1 (List.mem_map.2 ⟨x, hx, hm⟩)
theorem itemsBad_of : ∀ {l : List Item} {met : List Int} {i : Nat}, (l.map Item.id).Nodup → (∀ m ∈ l, m.id ∉ met ∧ m.ok) → itemsBad met i l = none
  | [], _, _, _, _ => rfl
  | m :: r, met, i, hn, h => by
    rw [List.map_cons, List.nodup_cons] at hn
    rw [itemsBad, if_pos ⟨(h m List.mem_cons_self).2, (h m List.mem_cons_self).1⟩]
    refine itemsBad_of hn.2 fun x hx => ⟨fun hm => ?_, (h x (List.mem_cons_of_mem _ hx)).2⟩
    rcases List.mem_append.1 hm with hm | hm
    · exact (h x (List.mem_cons_of_mem _ hx)).1 hm
    · simp at hm
      exact hn.1 (List.mem_map.2 ⟨x, hx, hm⟩)
theorem passesBad_of {msl : List (Int × Int)} : ∀ {l : List Pass} {ps tk : List (Int × Int)} {i : Nat}, (∀ (j : Nat) (y : Pass), l[j]? = some y → passOk msl (ps ++ psF msl (l.take j)) (tk ++ tkF (l.take j)) y) → passesBad msl ps tk i l = none
  | [], _, _, _, _ => rfl
  | a :: r, ps, tk, i, h => by
    have h0 : passOk msl ps tk a := by have := h 0 a rfl; simpa [psF, tkF] using this
    rw [passesBad, if_pos h0]
    refine passesBad_of fun j y hy => ?_
    have := h (j + 1) y (by simpa using hy)
    simpa [psF, tkF, List.append_assoc] using this
theorem validF_of {p : Plant} (hs : p.ms.length ≤ 20 ∧ p.items.length ≤ 2000 ∧ p.passes.length ≤ 60) (h1 : (p.ms.map Mach.id).Nodup) (h2 : ∀ m ∈ p.ms, rightM m) (h3 : (p.items.map Item.id).Nodup) (h4 : ∀ x ∈ p.items, x.ok)
    (h5 : ∀ (j : Nat) (y : Pass), p.passes[j]? = some y → passOk (mslF p.ms) (psF (mslF p.ms) (p.passes.take j)) (tkF (p.passes.take j)) y) : validF p = (0, 0) := by
  unfold validF
  rw [if_neg (by omega), machsBad_of h1 fun m hm => ⟨by simp, h2 m hm⟩]
  dsimp only
  rw [itemsBad_of h3 fun x hx => ⟨by simp, h4 x hx⟩]
  dsimp only
  rw [passesBad_of fun j y hy => by simpa using h5 j y hy]
theorem wrongS_of {b : Int} : ∀ {l : List Sh} {i : Nat} {b : Int}, (∀ (j : Nat) (s : Sh), l[j]? = some s → s.f < s.t ∧ s.t ≤ 1051898399 ∧ (j = 0 → b ≤ s.f) ∧ ∀ s', l[j + 1]? = some s' → s.t ≤ s'.f) → wrongS b i l = none
  | [], _, _, _ => rfl
  | s :: r, i, b, h => by
    obtain ⟨h1, h2, h3, h4⟩ := h 0 s rfl
    rw [wrongS, if_pos ⟨h3 rfl, h1, h2⟩]
    refine wrongS_of (b := s.t) fun j s' hs' => ?_
    obtain ⟨g1, g2, _, g4⟩ := h (j + 1) s' (by simpa using hs')
    refine ⟨g1, g2, fun hj => ?_, fun s'' hs'' => g4 s'' (by simpa using hs'')⟩
    subst hj
    exact h4 s' (by simpa using hs')
/-! ## what built makes -/
theorem bMach_id {x : Sk} {j : Nat} {m : Mach} (h : (bMs x)[j]? = some m) : j < (1 + nb x.ms 0 % 3).toNat ∧ m = bMach x.ms x.shs j := by
  obtain ⟨h1, h2⟩ := List.getElem?_eq_some_iff.1 h
  unfold bMs bMsN at h1 h2
  simp at h1 h2
  exact ⟨by simpa using h1, h2.symm⟩
theorem bMs_len (x : Sk) : 1 ≤ (bMs x).length ∧ (bMs x).length ≤ 3 := by
  have := nb_bd x.ms 0
  unfold bMs
  rw [bMsN_len]; omega
theorem bMs_nodup (x : Sk) : ((bMs x).map Mach.id).Nodup := by
  unfold bMs bMsN
  rw [List.map_map]
  refine List.Pairwise.map _ (R := fun a b => a ≠ b) (fun a b hab e => hab ?_) List.nodup_range
  simp only [Function.comp, bMach] at e
  omega
theorem bShs_ok (S : List UInt8) (i n : Nat) (hn : n ≤ 200) : wrongS 0 0 (bShs S i n) = none := by
  refine wrongS_of (b := 0) fun j s hs => ?_
  obtain ⟨h1, h2⟩ := List.getElem?_eq_some_iff.1 hs
  rw [bShs_len] at h1
  have e : s = bSh S i j := by rw [← h2]; simp [bShs]
  subst e
  have hb := bT_bd S i j
  have h3 := nb_bd S (i + j + 2)
  refine ⟨by unfold bSh; dsimp only; omega, by unfold bSh; dsimp only; omega, fun _ => hb.1, fun s' hs' => ?_⟩
  obtain ⟨g1, g2⟩ := List.getElem?_eq_some_iff.1 hs'
  have e : s' = bSh S i (j + 1) := by rw [← g2]; simp [bShs]
  subst e
  have h4 := nb_bd S (i + j + 3)
  unfold bSh
  dsimp only
  rw [show bT S i (j + 1) = bT S i j + 1 + nb S (i + j + 2) % 12 + nb S (i + j + 3) % 5 from rfl]
  omega
theorem bCaps_ok (M : List UInt8) (i n : Nat) (hn : 1 ≤ n ∧ n ≤ 64) : Srt.capsOk (bCaps M i n) := by
  refine ⟨by rw [bCaps_len]; exact hn, fun c hc => ?_⟩
  obtain ⟨k, _, rfl⟩ := List.mem_map.1 hc
  have := nb_bd M (i + k + 4)
  omega
/-- A machine that built makes, at any rate. -/
theorem bMach_right (M S : List UInt8) (i : Nat) (hi : i < 3) {r : Int} (hr : 1 ≤ r ∧ r ≤ 1000) : rightM { bMach M S i with rate := r } := by
  have h3 := nb_bd M (i + 3)
  have h1 := nb_bd M (i + 1)
  have h4 := nb_bd S (i + 1)
  have hc := bCaps_ok M i (1 + nb M (i + 3) % 4).toNat (by omega)
  refine ⟨by unfold idOk bMach; dsimp only; omega, hr, ?_, ?_⟩
  · show (Srt.runF (bCaps M i (1 + nb M (i + 3) % 4).toNat) (nb M (i + 1) % 4) []).2 = 0
    rw [Srt.runF_ok hc (by omega) ⟨by simp, by simp, by simp⟩]
  · show (allowedF [] (bShs S i (2 + nb S (i + 1) % 4).toNat)).2 = 0
    unfold allowedF
    rw [if_neg (by rw [bShs_len]; simp; omega)]
    simp only [wrongJ]
    rw [bShs_ok _ _ _ (by omega)]
theorem bIs_nodup (x : Sk) : ((bIs x).map Item.id).Nodup := by
  unfold bIs bIsN
  rw [List.map_map]
  refine List.Pairwise.map _ (R := fun a b => a ≠ b) (fun a b hab e => hab ?_) List.nodup_range
  simp only [Function.comp, bItem] at e
  omega
theorem bIs_ok (x : Sk) : ∀ y ∈ bIs x, y.ok := fun y hy => by
  obtain ⟨k, hk, rfl⟩ := List.mem_map.1 hy
  have hk := List.mem_range.1 hk
  have : k < 40 := by omega
  have := (x.its.getD k 0).toNat_lt
  unfold Item.ok idOk bItem
  dsimp only
  omega
end Go.Sx.Plt
namespace Go.Sx.Plt
open Go.Proofs.Ytkhaemjoekfhiaa (mslF_keys psF tkF psF_snoc tkF_snoc)
theorem srcs_of {ps : List (Int × Int)} : ∀ {l tk : List (Int × Int)}, l.Nodup → (∀ s ∈ l, s ∉ tk ∧ srcOk ps s) → srcsOk ps tk l
  | [], _, _, _ => trivial
  | a :: r, tk, hn, h => by
    rw [List.nodup_cons] at hn
    obtain ⟨h1, h2⟩ := h a List.mem_cons_self
    refine ⟨⟨h2, h1⟩, srcs_of hn.2 fun s hs => ⟨fun hm => ?_, (h s (List.mem_cons_of_mem _ hs)).2⟩⟩
    rcases List.mem_append.1 hm with hm | hm
    · exact (h s (List.mem_cons_of_mem _ hs)).1 hm
    · simp at hm; subst hm; exact hn.1 hs
theorem rows_of {n : Int} : ∀ {l : List Row} {met : List Int}, (l.map Row.stop).Nodup → (∀ e ∈ l, e.stop ∉ met ∧ 0 ≤ e.st ∧ e.st < n) → rowsOk n met l
  | [], _, _, _ => trivial
  | a :: r, met, hn, h => by
    rw [List.map_cons, List.nodup_cons] at hn
    refine ⟨h a List.mem_cons_self, rows_of hn.2 fun s hs => ⟨fun hm => ?_, (h s (List.mem_cons_of_mem _ hs)).2⟩⟩
    rcases List.mem_append.1 hm with hm | hm
    · exact (h s (List.mem_cons_of_mem _ hs)).1 hm
    · simp at hm; exact hn.1 (List.mem_map.2 ⟨s, hs, hm⟩)
theorem bPick_perm (n : Nat) : ∀ (l : List (Int × Int)) (k : Nat) (a b : List (Int × Int)), ((bPick n k a b l).1 ++ (bPick n k a b l).2).Perm (a ++ b ++ l)
  | [], k, a, b => by simp [bPick]
  | s :: r, k, a, b => by
    rw [bPick]
    split
    · refine (bPick_perm n r (k + 1) _ _).trans ?_
      rw [List.append_assoc a [s], List.append_assoc a b, List.append_assoc a]
      refine List.Perm.append_left a ?_
      rw [List.singleton_append, List.cons_append]
      exact List.perm_middle.symm
    · refine (bPick_perm n r (k + 1) _ _).trans ?_
      rw [List.append_assoc, List.append_assoc, List.append_assoc, List.singleton_append]
theorem bTab_mem {n c m : Nat} {e : Row} (h : e ∈ bTab n c m) : ∃ s, s < m ∧ s ≠ n % 16 ∧ e = ⟨s, (((n + s) % c : Nat) : Int)⟩ := by
  obtain ⟨s, hs, rfl⟩ := List.mem_map.1 h
  rw [List.mem_filter] at hs
  exact ⟨s, List.mem_range.1 hs.1, by simpa using hs.2, rfl⟩
theorem bTab_len (n c m : Nat) : (bTab n c m).length ≤ m := by
  unfold bTab
  rw [List.length_map]
  exact Nat.le_trans (List.length_filter_le _ _) (by simp)
theorem bUn_len (its : List Item) (n i m : Nat) : (bUn its n i m).length ≤ m := by
  unfold bUn
  rw [List.length_map]
  exact Nat.le_trans (List.length_filter_le _ _) (by simp)
theorem bTab_nodup (n c m : Nat) : ((bTab n c m).map Row.stop).Nodup := by
  unfold bTab
  rw [List.map_map]
  refine List.Pairwise.map _ (R := fun a b => a ≠ b) (fun a b hab e => hab ?_) (List.Pairwise.filter _ List.nodup_range)
  simp only [Function.comp] at e
  omega
/-- What is true of the first i passes, and of what they leave. -/
structure BI (ms : List Mach) (its : List Item) (P : List UInt8) (i : Nat) : Prop where
  nd : ((bAt ms its P i).1 ++ tkF (bAt ms its P i).2).Nodup
  src : ∀ s ∈ (bAt ms its P i).1 ++ tkF (bAt ms its P i).2, srcOk (psF (mslF ms) (bAt ms its P i).2) s ∧ (s.1 = 0 → s.2 ≤ min i 3)
  ids : ∀ (j : Nat) (y : Pass), (bAt ms its P i).2[j]? = some y → y.id = 20 - j
  pok : ∀ (j : Nat) (y : Pass), (bAt ms its P i).2[j]? = some y → passOk (mslF ms) (psF (mslF ms) ((bAt ms its P i).2.take j)) (tkF ((bAt ms its P i).2.take j)) y
theorem key_ids {msl : List (Int × Int)} {l : List Pass} {i : Nat} (hl : l.length = i) (hids : ∀ (j : Nat) (y : Pass), l[j]? = some y → y.id = 20 - j) {id n : Int} (h : asF id (psF msl l) = some n) : ∃ j : Nat, j < i ∧ id = 20 - j := by
  obtain ⟨j, hj⟩ := asF_some h
  rw [psF, List.getElem?_map] at hj
  cases hy : l[j]? with
  | none => rw [hy] at hj; cases hj
  | some y =>
    rw [hy] at hj
    simp only [Option.map_some, Option.some.injEq, Prod.mk.injEq] at hj
    exact ⟨j, by have := (List.getElem?_eq_some_iff.1 hy).1; omega, by rw [← hj.1]; exact hids j y hy⟩
theorem srcOk_mono {ps : List (Int × Int)} {q : Int × Int} {s : Int × Int} (h : srcOk ps s) : srcOk (ps ++ [q]) s := by
  unfold srcOk at h ⊢
  by_cases h0 : s.1 = 0
  · rw [if_pos h0] at h ⊢; exact h
  · rw [if_neg h0] at h ⊢
    cases ho : asF s.1 ps with
    | none => rw [ho] at h; exact h.elim
    | some n => rw [ho] at h; rw [asF_app, ho]; exact h
theorem BI.zero (ms : List Mach) (its : List Item) (P : List UInt8) : BI ms its P 0 := ⟨by simp [bAt, tkF], by simp [bAt, tkF], by simp [bAt], by simp [bAt]⟩
theorem BI.step {ms : List Mach} {its : List Item} {P : List UInt8} {i : Nat} (h : BI ms its P i) (hi : i < 6) (hm : 1 ≤ ms.length) (hn : (ms.map Mach.id).Nodup) (hc : ∀ m ∈ ms, 1 ≤ m.caps.length) (hl : its.length ≤ 2000) : BI ms its P (i + 1) := by
  obtain ⟨nd, src, ids, pok⟩ := h
  have hlen := bAt_len ms its P i
  have e1 : (bAt ms its P (i + 1)).1 = bNext ms (P.getD i 0).toNat i (bAt ms its P i).1 := rfl
  have e2 : (bAt ms its P (i + 1)).2 = (bAt ms its P i).2 ++ [bPass ms its (P.getD i 0).toNat i (bAt ms its P i).1] := rfl
  have hn8 := (P.getD i 0).toNat_lt
  generalize (P.getD i 0).toNat = n at e1 e2 hn8
  generalize (bAt ms its P i).1 = left at *
  generalize (bAt ms its P i).2 = pss at *
  obtain ⟨m, hmm, hmd⟩ : ∃ m, m ∈ ms ∧ bMd ms n = m := by
    have hlt : n % ms.length < ms.length := Nat.mod_lt _ (by omega)
    exact ⟨ms[n % ms.length], List.getElem_mem _, by unfold bMd; simp [List.getD_eq_getElem?_getD, hlt]⟩
  have hcm := hc m hmm
  have hmsl : asF m.id (mslF ms) = some (m.caps.length : Int) := by
    obtain ⟨j, hj⟩ := List.getElem?_of_mem hmm
    exact asF_at (j := j) (by rw [mslF_keys]; exact hn) (by rw [mslF, List.getElem?_map, hj]; rfl)
  -- what is left, with the new batch
  have hL : (bLeft i left ++ tkF pss).Nodup ∧ ∀ s ∈ bLeft i left ++ tkF pss, srcOk (psF (mslF ms) pss) s ∧ (s.1 = 0 → s.2 ≤ min (i + 1) 3) := by
    unfold bLeft
    by_cases h3 : i < 3
    · rw [if_pos h3]
      refine ⟨?_, fun s hs => ?_⟩
      · rw [List.append_assoc, List.singleton_append]
        refine List.perm_middle.nodup_iff.2 (List.nodup_cons.2 ⟨fun hh => ?_, nd⟩)
        have := (src _ hh).2 rfl
        dsimp only at this
        omega
      · rw [List.append_assoc, List.singleton_append] at hs
        rcases List.mem_cons.1 (List.perm_middle.mem_iff.1 hs) with rfl | hs
        · refine ⟨?_, fun _ => by dsimp only; omega⟩
          unfold srcOk
          rw [if_pos rfl]
          dsimp only; omega
        · exact ⟨(src s hs).1, fun h0 => by have := (src s hs).2 h0; omega⟩
    · rw [if_neg h3]
      exact ⟨nd, fun s hs => ⟨(src s hs).1, fun h0 => by have := (src s hs).2 h0; omega⟩⟩
  have hpp := bPick_perm n (bLeft i left) 0 [] []
  rw [List.nil_append, List.nil_append] at hpp
  have hy : bPass ms its n i left = ⟨20 - i, m.id, (n : Int) / 8 % 16, (bPick n 0 [] [] (bLeft i left)).1, bTab n m.caps.length 8, bUn its n i its.length⟩ := by unfold bPass; rw [hmd]
  have hx : bNext ms n i left = (bPick n 0 [] [] (bLeft i left)).2 ++ bSrcs (20 - i) m.caps.length := by unfold bNext; rw [hmd]
  generalize (bPick n 0 [] [] (bLeft i left)).1 = fr at *
  generalize (bPick n 0 [] [] (bLeft i left)).2 = re at *
  generalize bLeft i left = left2 at *
  rw [hx] at e1
  rw [hy] at e2
  clear hx hy
  have hnew : asF (20 - (i : Int)) (psF (mslF ms) pss) = none := by
    cases ho : asF (20 - (i : Int)) (psF (mslF ms) pss) with
    | none => rfl
    | some q =>
      obtain ⟨j, hj, e⟩ := key_ids hlen ids ho
      omega
  have hold : ∀ s ∈ left2 ++ tkF pss, s.1 ≠ 20 - (i : Int) := fun s hs e => by
    have h1 := (hL.2 s hs).1
    unfold srcOk at h1
    rw [if_neg (by omega), e, hnew] at h1
    exact h1
  have hps2 : psF (mslF ms) (pss ++ [⟨20 - i, m.id, (n : Int) / 8 % 16, fr, bTab n m.caps.length 8, bUn its n i its.length⟩]) = psF (mslF ms) pss ++ [(20 - (i : Int), (m.caps.length : Int))] := by simp [psF, hmsl]
  have htk2 : tkF (pss ++ [⟨20 - i, m.id, (n : Int) / 8 % 16, fr, bTab n m.caps.length 8, bUn its n i its.length⟩]) = tkF pss ++ fr := by simp [tkF]
  have hfr : ∀ s ∈ fr, s ∈ left2 := fun s hs => hpp.mem_iff.1 (List.mem_append.2 (.inl hs))
  have hre : ∀ s ∈ re, s ∈ left2 := fun s hs => hpp.mem_iff.1 (List.mem_append.2 (.inr hs))
  have hsrcs : ∀ s ∈ bSrcs (20 - (i : Int)) m.caps.length, s.1 = 20 - (i : Int) ∧ 0 ≤ s.2 ∧ s.2 < m.caps.length := fun s hs => by
    obtain ⟨k, hk, rfl⟩ := List.mem_map.1 hs
    have := List.mem_range.1 hk
    exact ⟨rfl, by dsimp only; omega, by dsimp only; omega⟩
  have hsn : (bSrcs (20 - (i : Int)) m.caps.length).Nodup := by
    unfold bSrcs
    refine List.Pairwise.map _ (R := fun a b => a ≠ b) (fun a b hab e => hab ?_) List.nodup_range
    have := (Prod.mk.inj e).2
    omega
  refine ⟨?_, fun s hs => ?_, fun j y hy => ?_, fun j y hy => ?_⟩
  · rw [e1, e2, htk2]
    have hperm : (re ++ bSrcs (20 - (i : Int)) m.caps.length ++ (tkF pss ++ fr)).Perm (bSrcs (20 - (i : Int)) m.caps.length ++ (left2 ++ tkF pss)) := by
      have p1 : (re ++ bSrcs (20 - (i : Int)) m.caps.length ++ (tkF pss ++ fr)).Perm (bSrcs (20 - (i : Int)) m.caps.length ++ (re ++ (tkF pss ++ fr))) := by
        rw [← List.append_assoc (bSrcs _ _)]
        exact List.Perm.append_right _ List.perm_append_comm
      refine p1.trans (List.Perm.append_left _ ?_)
      have p2 : (re ++ (tkF pss ++ fr)).Perm (re ++ (fr ++ tkF pss)) := List.Perm.append_left _ List.perm_append_comm
      refine p2.trans ?_
      rw [← List.append_assoc]
      exact List.Perm.append_right _ (List.perm_append_comm.trans hpp)
    refine hperm.nodup_iff.2 (List.nodup_append.2 ⟨hsn, hL.1, fun a ha b hb e => ?_⟩)
    subst e
    exact hold a hb (hsrcs a ha).1
  · rw [e1, e2, htk2] at hs
    rw [e2, hps2]
    rcases List.mem_append.1 hs with hs | hs
    · rcases List.mem_append.1 hs with hs | hs
      · have := hL.2 s (List.mem_append.2 (.inl (hre s hs)))
        exact ⟨srcOk_mono this.1, this.2⟩
      · obtain ⟨g1, g2, g3⟩ := hsrcs s hs
        refine ⟨?_, fun h0 => by omega⟩
        unfold srcOk
        rw [if_neg (by omega), g1, asF_app, hnew]
        simp only [asF, if_true, Option.none_or]
        exact ⟨g2, g3⟩
    · have hs' : s ∈ left2 ++ tkF pss := by
        rcases List.mem_append.1 hs with hs | hs
        · exact List.mem_append.2 (.inr hs)
        · exact List.mem_append.2 (.inl (hfr s hs))
      exact ⟨srcOk_mono (hL.2 s hs').1, (hL.2 s hs').2⟩
  · rw [e2] at hy
    by_cases hj : j < pss.length
    · rw [List.getElem?_append_left hj] at hy; exact ids j y hy
    · have : j = pss.length := by have h := (List.getElem?_eq_some_iff.1 hy).1; rw [List.length_append, List.length_singleton] at h; omega
      subst this
      rw [List.getElem?_append_right (Nat.le_refl _), Nat.sub_self] at hy
      cases hy
      dsimp only; omega
  · rw [e2] at hy ⊢
    by_cases hj : j < pss.length
    · rw [List.getElem?_append_left hj] at hy
      rw [List.take_append_of_le_length (by omega)]
      exact pok j y hy
    · have : j = pss.length := by have h := (List.getElem?_eq_some_iff.1 hy).1; rw [List.length_append, List.length_singleton] at h; omega
      subst this
      rw [List.getElem?_append_right (Nat.le_refl _), Nat.sub_self] at hy
      cases hy
      rw [List.take_append_of_le_length (Nat.le_refl _), List.take_length]
      have hfn : fr.Nodup := by
        have := (List.nodup_append.1 hL.1).1
        exact (List.nodup_append.1 (hpp.nodup_iff.2 this)).1
      refine ⟨⟨⟨hnew, by rw [hmsl]; rfl⟩, by unfold idOk; dsimp only; omega, by dsimp only; omega⟩, srcs_of hfn fun s hs => ⟨fun hh => ?_, (hL.2 s (List.mem_append.2 (.inl (hfr s hs)))).1⟩, ⟨?_, ?_⟩, ?_⟩
      · exact (List.nodup_append.1 hL.1).2.2 s (hfr s hs) s hh rfl
      · have := bTab_len n m.caps.length 8
        dsimp only; omega
      · have := bUn_len its n i its.length
        dsimp only; omega
      · dsimp only
        rw [hmsl, Option.getD_some]
        refine rows_of (bTab_nodup _ _ _) fun e he => ⟨by simp, ?_⟩
        obtain ⟨s, _, _, rfl⟩ := bTab_mem he
        have : (n + s) % m.caps.length < m.caps.length := Nat.mod_lt _ (by omega)
        dsimp only; omega
theorem BI.all {ms : List Mach} {its : List Item} {P : List UInt8} (hm : 1 ≤ ms.length) (hn : (ms.map Mach.id).Nodup) (hc : ∀ m ∈ ms, 1 ≤ m.caps.length) (hl : its.length ≤ 2000) : ∀ i, i ≤ 6 → BI ms its P i
  | 0, _ => BI.zero ms its P
  | i + 1, h => BI.step (BI.all hm hn hc hl i (by omega)) (by omega) hm hn hc hl
/-- Plants that built makes, with machines of other rates. -/
def rated (ms : List Mach) (rs : List Int) : List Mach := ms.zipWith (fun m r => { m with rate := r }) rs
theorem built_bi (x : Sk) : BI (bMs x) (bIs x) x.ps (min x.ps.length 6) :=
  BI.all (bMs_len x).1 (bMs_nodup x) (fun m hm => (bMs_caps hm).1) (by unfold bIs; rw [bIsN_len]; omega) _ (by omega)
theorem built_valid (x : Sk) : validF (built x) = (0, 0) := by
  have hb := built_bi x
  have hl := bMs_len x
  refine validF_of ⟨?_, ?_, ?_⟩ (bMs_nodup x) (fun m hm => ?_) (bIs_nodup x) (bIs_ok x) hb.pok
  · show (bMs x).length ≤ 20; omega
  · show (bIs x).length ≤ 2000; unfold bIs; rw [bIsN_len]; omega
  · show (bAt (bMs x) (bIs x) x.ps (min x.ps.length 6)).2.length ≤ 60; rw [bAt_len]; omega
  · obtain ⟨j, hj⟩ := List.getElem?_of_mem (show m ∈ bMs x from hm)
    obtain ⟨hj1, rfl⟩ := bMach_id hj
    have h0 := nb_bd x.ms 0
    have h2 := nb_bd x.ms (j + 2)
    exact bMach_right x.ms x.shs j (by omega) (r := 1 + nb x.ms (j + 2) % 5) (by omega)
end Go.Sx.Plt
namespace Go.Sx.Srt
open Go.Sx.Seq (addAt addAt_len)
def shift (d : Int) (m : M) : M := { m with left := m.left + d }
/-- How many sweeps are needed. -/
def needed (caps : List Int) (l : List Fd) : Int := (playF caps l.length l).swept.sum
/-! ## events -/
end Go.Sx.Srt
namespace Go.Sx.Srt
open Go.Sx.Seq (addAt addAt_len)
/-- What belongs to a stacker, in the order of feeding. -/
def goes (l : List Fd) (k : Nat) : List Int := (l.filter fun f => f.st = (k : Int)).map Fd.item
def refused (l : List Fd) : List Int := (l.filter fun f => f.st < 0).map Fd.item
end Go.Sx.Srt
namespace Go.Sx.Plt
open Go.Proofs.Ytkhaemjoekfhiaa (mslF_keys psF tkF psF_snoc tkF_snoc)
/-! ## slices and minutes -/
theorem span_min {rel : Int} : ∀ {l : List Sh} {left : Int}, 0 ≤ left → spanF (slicesF rel left l) = min left (haveF rel l)
  | [], left, h => by simp [slicesF, spanF, haveF]; omega
  | s :: r, left, h => by
    have hh : 0 ≤ haveF rel r := by
      have : ∀ l : List Sh, 0 ≤ haveF rel l := by
        intro l
        induction l with
        | nil => simp [haveF]
        | cons a l ih => rw [haveF]; omega
      exact this r
    rw [slicesF, haveF]
    by_cases hc : left = 0 ∨ s.t ≤ max s.f rel
    · rw [if_pos hc, span_min h]
      rcases hc with h0 | h0 <;> omega
    · rw [if_neg hc, spanF, span_min (by omega)]
      dsimp only
      omega
/-- Slices, one behind the other. -/
def Chain : Int → List (Int × Int) → Prop
  | _, [] => True
  | e, s :: r => (e ≤ s.1 ∧ s.1 < s.2) ∧ Chain s.2 r
theorem Chain.mono : ∀ {l : List (Int × Int)} {e e' : Int}, e' ≤ e → Chain e l → Chain e' l
  | [], _, _, _, _ => trivial
  | s :: r, e, e', h, hc => ⟨by have := hc.1; omega, hc.2⟩
theorem slices_chain {rel : Int} : ∀ {l : List Sh} {left b : Int} {i : Nat}, 0 ≤ left → wrongS b i l = none → Chain (max b rel) (slicesF rel left l)
  | [], _, _, _, _, _ => trivial
  | s :: r, left, b, i, h, hw => by
    rw [wrongS] at hw
    split at hw
    · rename_i hs
      unfold Sh.ok at hs
      rw [slicesF]
      by_cases hc : left = 0 ∨ s.t ≤ max s.f rel
      · rw [if_pos hc]
        exact Chain.mono (by omega) (slices_chain h hw)
      · rw [if_neg hc]
        refine ⟨by dsimp only; omega, ?_⟩
        dsimp only
        by_cases hl : left - (min s.t (max s.f rel + left) - max s.f rel) = 0
        · rw [hl]
          have : ∀ l : List Sh, slicesF rel 0 l = [] := by
            intro l
            induction l with
            | nil => rfl
            | cons a l ih => rw [slicesF, if_pos (.inl rfl), ih]
          rw [this]; trivial
        · have hm : min s.t (max s.f rel + left) = s.t := by omega
          rw [hm]
          exact Chain.mono (by omega) (slices_chain (by omega) hw)
    · cases hw
theorem slices_inside {rel : Int} : ∀ {l : List Sh} {left : Int}, 0 ≤ left → ∀ s ∈ slicesF rel left l, ∃ h ∈ l, h.f ≤ s.1 ∧ s.2 ≤ h.t
  | [], _, _, s, hs => by simp [slicesF] at hs
  | a :: r, left, h, s, hs => by
    rw [slicesF] at hs
    split at hs
    · obtain ⟨x, hx, h1⟩ := slices_inside h s hs
      exact ⟨x, List.mem_cons_of_mem _ hx, h1⟩
    · rcases List.mem_cons.1 hs with rfl | hs
      · exact ⟨a, List.mem_cons_self, by dsimp only; omega, by dsimp only; omega⟩
      · obtain ⟨x, hx, h1⟩ := slices_inside (by omega) s hs
        exact ⟨x, List.mem_cons_of_mem _ hx, h1⟩
theorem need_lt {k n : Int} {r : Int} (hr : 1 ≤ r) : k < (n + r - 1) / r ↔ k * r < n := by
  have h1 : k + 1 ≤ (n + r - 1) / r ↔ (k + 1) * r ≤ n + r - 1 := Int.le_ediv_iff_mul_le (by omega)
  have h2 : (k + 1) * r = k * r + r := by rw [Int.add_mul, Int.one_mul]
  rw [h2] at h1
  omega
/-! ## feeds -/
theorem tableF_mem {k v : Int} : ∀ l : List Row, asF k (tableF l) = some v → ∃ e ∈ l, e.stop = k ∧ e.st = v := by
  refine fun l => snoc_ind (p := fun l => asF k (tableF l) = some v → ∃ e ∈ l, e.stop = k ∧ e.st = v) (fun h => by simp [tableF, asF] at h) (fun l e ih h => ?_) l
  rw [tableF_snoc, asF_put] at h
  by_cases hk : e.stop = k
  · rw [if_pos hk] at h
    exact ⟨e, by simp, hk, by simpa using h⟩
  · rw [if_neg hk] at h
    obtain ⟨x, hx, h1⟩ := ih h
    exact ⟨x, List.mem_append.2 (.inl hx), h1⟩
theorem rows_spec {n : Int} : ∀ {l : List Row} {met : List Int}, rowsOk n met l → ∀ e ∈ l, 0 ≤ e.st ∧ e.st < n
  | [], _, _, e, h => by simp at h
  | a :: r, met, h, e, he => by
    rcases List.mem_cons.1 he with rfl | he
    · exact h.1.2
    · exact rows_spec h.2 e he
theorem feed_item (stops : List (Int × Int)) (y : Pass) (x : Int) : (feedOf stops y x).item = x := by unfold feedOf; split <;> rfl
theorem feed_bd {stops : List (Int × Int)} {y : Pass} {n : Int} (hr : rowsOk n [] y.table) (hn : 0 ≤ n) (x : Int) : -1 ≤ (feedOf stops y x).st ∧ (feedOf stops y x).st < n := by
  unfold feedOf
  cases ho : asF ((asF x stops).getD 0) (tableF y.table) with
  | none => dsimp only; omega
  | some k =>
    obtain ⟨e, he, _, rfl⟩ := tableF_mem _ ho
    have := rows_spec hr e he
    dsimp only
    split <;> omega
theorem Valid.feeds {p : Plant} (hv : Valid p) {i : Nat} {h : Hall} (hi : Inv p i h) {y : Pass} (hy : p.passes[i]? = some y) {m : Mach} (hm : asF y.mach (mslF p.ms) = some (m.caps.length : Int)) {items : List Int} (hit : items = y.src.flatMap h.row) : Srt.FdsOk m.caps.length (items.map (feedOf (stopsF p.items) y)) ∧ (∀ x ∈ items, x ∈ p.items.map Item.id) ∧ items.Nodup := by
  have hs := hv.src hy
  have hcount := fun x => hi.count hs.1 (fun s hs' => (hs.2 s hs').1) x
  rw [← hit] at hcount
  have hmem : ∀ x ∈ items, x ∈ p.items.map Item.id := fun x hx => by
    have h1 := List.count_pos_iff.2 hx
    have := hcount x
    exact List.count_pos_iff.1 (by omega)
  have hnd : items.Nodup := List.nodup_iff_count.2 fun x => by
    have := hcount x
    have := List.nodup_iff_count.1 hv.ind x
    omega
  refine ⟨⟨fun f hf => ?_, ?_, ?_⟩, hmem, hnd⟩
  · obtain ⟨x, hx, rfl⟩ := List.mem_map.1 hf
    obtain ⟨z, hz, e⟩ := List.mem_map.1 (hmem x hx)
    have hok := (hv.iok z hz).1
    unfold idOk at hok
    have hrow := (hv.pok i y hy).2.2.2
    rw [hm, Option.getD_some] at hrow
    have := feed_bd (stops := stopsF p.items) hrow (by omega) x
    unfold Srt.Fd.ok
    rw [feed_item]
    omega
  · rw [feed_items]; exact hnd
  · rw [List.length_map]
    have := hi.len hv hs.1 (fun s hs' => (hs.2 s hs').1)
    rw [← hit] at this
    exact this
/-! ## one run -/
/-- A run that was run. -/
structure Ran (p : Plant) (h : Hall) (m : Mach) (y : Pass) (r : Run) (ready : Int) : Prop where
  take : takeSrc h (max y.rel ((asF m.id h.free).getD 0)) [] y.src = some (ready, r.items)
  pass : r.pass = y.id
  res : Srt.runF m.caps m.sweeps (r.items.map (feedOf (stopsF p.items) y)) = (r.res, 0)
  hall : (runF h m (stopsF p.items) y).2 = ⟨putRows y.id 0 r.res.stackers h.rows, putF y.id r.fin h.ends, putF m.id r.fin h.free⟩
  slices : r.slices = if r.items = [] then [] else slicesF ready (needOf r.items.length m.rate) m.shifts
  enough : needOf r.items.length m.rate ≤ haveF ready m.shifts
  start : r.start = if r.items = [] then ready else (r.slices.headD (0, 0)).1
  fin : r.fin = if r.items = [] then ready else (r.slices.getLastD (0, 0)).2
/-- A run that was not. -/
structure Miss (p : Plant) (h : Hall) (m : Mach) (y : Pass) (r : Run) : Prop where
  eq : r = missed y
  hall : (runF h m (stopsF p.items) y).2 = h
  why : ∀ ready items, takeSrc h (max y.rel ((asF m.id h.free).getD 0)) [] y.src = some (ready, items) → haveF ready m.shifts * m.rate < items.length
theorem need_nonneg {n : Nat} {r : Int} (hr : 1 ≤ r) : 0 ≤ needOf n r := Int.ediv_nonneg (by omega) (by omega)
theorem haveF_nonneg (t : Int) : ∀ l : List Sh, 0 ≤ haveF t l
  | [] => by simp [haveF]
  | a :: r => by have := haveF_nonneg t r; rw [haveF]; omega
theorem run_cases {p : Plant} (hv : Valid p) {i : Nat} {h : Hall} (hi : Inv p i h) {y : Pass} (hy : p.passes[i]? = some y) {m : Mach} (hm : asF y.mach (mslF p.ms) = some (m.caps.length : Int)) (hr : rightM m) :
    Miss p h m y (runF h m (stopsF p.items) y).1 ∨ ∃ ready, Ran p h m y (runF h m (stopsF p.items) y).1 ready := by
  have hrate := hr.2.1.1
  cases ht : takeSrc h (max y.rel ((asF m.id h.free).getD 0)) [] y.src with
  | none =>
    have e : runF h m (stopsF p.items) y = (missed y, h) := by unfold runF; rw [ht]
    exact .inl ⟨by rw [e], by rw [e], fun ready items hh => by rw [ht] at hh; cases hh⟩
  | some q =>
    obtain ⟨ready, items⟩ := q
    have hit := (takeSrc_spec ht).1
    rw [List.nil_append] at hit
    obtain ⟨hfd, _, _⟩ := hv.feeds hi hy hm hit
    have hcaps : Srt.capsOk m.caps ∧ 0 ≤ m.sweeps ∧ m.sweeps ≤ 1000 := by
      have h1 := hr.2.2.1
      unfold Srt.runF at h1
      split at h1
      · cases h1
      · rename_i hc
        split at h1
        · cases h1
        · rename_i hs
          exact ⟨Classical.not_not.1 hc, by omega, by omega⟩
    have hres := Srt.runF_ok hcaps.1 hcaps.2 hfd
    by_cases hne : items = []
    · subst hne
      have e := Go.Proofs.Ytkhaemjoekfhiaa.runF_idle (stops := stopsF p.items) ht
      rw [show Srt.runF m.caps m.sweeps [] = _ from hres] at e
      unfold Go.Proofs.Ytkhaemjoekfhiaa.tailF at e
      rw [if_neg (by simp)] at e
      refine .inr ⟨ready, ?_⟩
      rw [e]
      refine ⟨ht, rfl, hres, by rw [e], rfl, ?_, rfl, rfl⟩
      have : needOf ([] : List Int).length m.rate = 0 := by
        unfold needOf
        exact Int.ediv_eq_zero_of_lt (by simp; omega) (by simp; omega)
      dsimp only
      rw [this]
      exact haveF_nonneg _ _
    · have hsp := span_min (rel := ready) (l := m.shifts) (need_nonneg (n := items.length) hrate)
      by_cases hl : slicesF ready (needOf items.length m.rate) m.shifts = [] ∨ spanF (slicesF ready (needOf items.length m.rate) m.shifts) < needOf items.length m.rate
      · have e := Go.Proofs.Ytkhaemjoekfhiaa.runF_late (stops := stopsF p.items) ht hne hl
        refine .inl ⟨by rw [e], by rw [e], fun r2 i2 hh => ?_⟩
        rw [ht] at hh
        cases hh
        have hn1 : 1 ≤ needOf items.length m.rate := by
          have := List.length_pos_iff.2 hne
          unfold needOf
          exact Int.le_ediv_of_mul_le (by omega) (by omega)
        have h2 : haveF ready m.shifts < needOf items.length m.rate := by
          rcases hl with h0 | h0
          · rw [h0, spanF] at hsp; omega
          · omega
        exact (need_lt hrate).1 h2
      · have e := Go.Proofs.Ytkhaemjoekfhiaa.runF_busy (stops := stopsF p.items) ht hne hl
        rw [hres] at e
        unfold Go.Proofs.Ytkhaemjoekfhiaa.tailF at e
        rw [if_neg (by simp)] at e
        refine .inr ⟨ready, ?_⟩
        rw [e]
        refine ⟨ht, rfl, hres, by rw [e], by dsimp only; rw [if_neg hne], by dsimp only; omega, by dsimp only; rw [if_neg hne], by dsimp only; rw [if_neg hne]⟩
end Go.Sx.Plt
namespace Go.Sx.Plt
open Go.Proofs.Ytkhaemjoekfhiaa (mslF_keys psF tkF psF_snoc tkF_snoc)
/-- The run of a pass of a valid plant. -/
theorem Valid.run {p : Plant} (hv : Valid p) {i : Nat} {y : Pass} (hy : p.passes[i]? = some y) {r : Run} (hr : (playF p)[i]? = some r) : ∃ (k : Nat) (m : Mach), p.ms[k]? = some m ∧ m.id = y.mach ∧ rightM m ∧ r = (runF (hallAt p i) m (stopsF p.items) y).1 ∧ hallAt p (i + 1) = (runF (hallAt p i) m (stopsF p.items) y).2 ∧
    asF y.mach (mslF p.ms) = some (m.caps.length : Int) ∧ (Miss p (hallAt p i) m y r ∨ ∃ ready, Ran p (hallAt p i) m y r ready) := by
  obtain ⟨k, m, h1, h2, h3, h4, h5⟩ := hv.mach hy
  have hg := playF_get hy
  rw [hr, h3] at hg
  have e : r = (runF (hallAt p i) m (stopsF p.items) y).1 := Option.some.inj hg
  refine ⟨k, m, h1, h2, h4, e, by rw [hallAt_succ hy, h3], h5, ?_⟩
  rw [e]
  exact run_cases hv (Inv.all hv i) hy h5 h4
theorem pass_lt {p : Plant} {i : Nat} {y : Pass} (h : p.passes[i]? = some y) : i < p.passes.length := (List.getElem?_eq_some_iff.1 h).1
theorem Valid.get {p : Plant} {i : Nat} {y : Pass} (h : p.passes[i]? = some y) : ∃ r, (playF p)[i]? = some r := ⟨_, List.getElem?_eq_getElem (by rw [playF_len]; exact pass_lt h)⟩
theorem hall_stay {p : Plant} {i : Nat} (h : p.passes[i]? = none) : hallAt p (i + 1) = hallAt p i := by
  unfold hallAt
  rw [List.take_add_one, h]; simp
/-! ## rows -/
theorem batch_row (b : Int) : ∀ l : List Item, (asF ((0 : Int), b) (batchRows [] l)).getD [] = ofBatch l (0, b) := by
  refine fun l => snoc_ind (p := fun l => (asF ((0 : Int), b) (batchRows [] l)).getD [] = ofBatch l (0, b)) (by simp [batchRows, asF, ofBatch]) (fun l x ih => ?_) l
  rw [batch_snoc, asF_put]
  unfold ofBatch at ih ⊢
  rw [if_pos rfl] at ih ⊢
  rw [List.filter_append, List.map_append]
  by_cases h : x.batch = b
  · rw [if_pos (by rw [h]), Option.getD_some, h, ih]; simp [h]
  · rw [if_neg (fun e => h (Prod.mk.inj e).2), ih]; simp [h]
theorem batch_row0 {s : Int × Int} (h : s.1 ≠ 0) (l : List Item) : asF s (batchRows [] l) = none := by
  refine snoc_ind (p := fun l => asF s (batchRows [] l) = none) (by simp [batchRows, asF]) (fun l x ih => ?_) l
  rw [batch_snoc, asF_put, if_neg (fun e => h (by rw [← e]))]
  exact ih
theorem ofRun_missed (y : Pass) {s : Int × Int} (h : 0 ≤ s.2) : ofRun s (missed y) = [] := by
  unfold ofRun
  rw [if_neg]
  rintro ⟨_, h2⟩
  simp [missed, Srt.M.new] at h2
  omega
theorem Valid.rows {p : Plant} (hv : Valid p) {s : Int × Int} (hs : 0 ≤ s.2) : ∀ i, (hallAt p i).row s = ofBatch p.items s ++ ((playF p).take i).flatMap (ofRun s)
  | 0 => by
    rw [hallAt_zero, List.take_zero, List.flatMap_nil, List.append_nil]
    unfold Hall.row hall0
    dsimp only
    by_cases h0 : s.1 = 0
    · obtain ⟨a, b⟩ := s
      dsimp only at h0
      subst h0
      exact batch_row b p.items
    · rw [batch_row0 h0]
      unfold ofBatch
      rw [if_neg h0]; rfl
  | i + 1 => by
    have ih := Valid.rows hv hs i
    cases hy : p.passes[i]? with
    | none =>
      have hl : p.passes.length ≤ i := by
        rcases Nat.lt_or_ge i p.passes.length with h | h
        · rw [List.getElem?_eq_getElem h] at hy; cases hy
        · exact h
      rw [hall_stay hy, ih, List.take_of_length_le (by rw [playF_len]; omega), List.take_of_length_le (by rw [playF_len]; omega)]
    | some y =>
      obtain ⟨r, hr⟩ := Valid.get hy
      obtain ⟨k, m, _, _, _, hre, hh, _, hc⟩ := hv.run hy hr
      rw [flatMap_snoc' _ hr, ← List.append_assoc, ← ih]
      rcases hc with hc | ⟨ready, hc⟩
      · rw [hh, hc.hall, hc.eq, ofRun_missed y hs, List.append_nil]
      · rw [hh, hc.hall]
        unfold Hall.row
        dsimp only
        obtain ⟨a, b⟩ := s
        dsimp only at hs
        rw [putRows_as]
        have hidn : y.id ≠ 0 := by
          have := (hv.pok i y hy).1.2.1
          unfold idOk at this
          omega
        unfold ofRun
        rw [hc.pass]
        dsimp only
        by_cases hid : a = y.id
        · subst hid
          have h0 : asF (y.id, b) (hallAt p i).rows = none := (Inv.all hv i).row_early hidn (hv.new hy)
          rw [h0]
          by_cases hb : b < (r.res.stackers.length : Int)
          · rw [if_pos ⟨rfl, by omega, by omega⟩, if_pos ⟨rfl, hb⟩]
            simp [List.getD_eq_getElem?_getD]
          · rw [if_neg (by rintro ⟨_, _, h⟩; omega), if_neg (fun h => hb h.2)]; rfl
        · rw [if_neg (fun h => hid h.1), if_neg (fun h => hid h.1.symm), List.append_nil]
theorem src_nonneg {ps : List (Int × Int)} {s : Int × Int} (h : srcOk ps s) : 0 ≤ s.2 := by
  unfold srcOk at h
  split at h
  · omega
  · split at h
    · exact h.elim
    · exact h.1
theorem Valid.src_nn {p : Plant} (hv : Valid p) {i : Nat} {y : Pass} (hy : p.passes[i]? = some y) : ∀ s ∈ y.src, 0 ≤ s.2 := fun s hs => src_nonneg ((srcs_spec (hv.pok i y hy).2.1).2 s hs).2
theorem Valid.taken' {p : Plant} (hv : Valid p) {i : Nat} {y : Pass} (hy : p.passes[i]? = some y) : y.src.flatMap (hallAt p i).row = takenF p.items ((playF p).take i) y.src := by
  unfold takenF
  have : ∀ l : List (Int × Int), (∀ s ∈ l, 0 ≤ s.2) → l.flatMap (hallAt p i).row = l.flatMap fun s => ofBatch p.items s ++ ((playF p).take i).flatMap (ofRun s) := by
    intro l
    induction l with
    | nil => intro _; rfl
    | cons a l ih =>
      intro h
      rw [List.flatMap_cons, List.flatMap_cons, ih fun s hs => h s (List.mem_cons_of_mem _ hs), hv.rows (h a List.mem_cons_self) i]
  exact this _ (hv.src_nn hy)
theorem Valid.taken_len {p : Plant} (hv : Valid p) {i : Nat} {y : Pass} (hy : p.passes[i]? = some y) : (takenF p.items ((playF p).take i) y.src).length ≤ 2000 := by
  rw [← hv.taken' hy]
  have hs := hv.src hy
  exact (Inv.all hv i).len hv hs.1 fun s hs' => (hs.2 s hs').1
theorem Ran.items {p : Plant} {i : Nat} {m : Mach} {y : Pass} {r : Run} {ready : Int} (hc : Ran p (hallAt p i) m y r ready) (hv : Valid p) (hy : p.passes[i]? = some y) : r.items = takenF p.items ((playF p).take i) y.src := by
  have := (takeSrc_spec hc.take).1
  rw [List.nil_append] at this
  rw [this, hv.taken' hy]
/-! ## where items are put -/
structure Placed (r : Run) (x st : Int) : Prop where
  all : allN r x r.res.stackers.length = 1
  rej : st < 0 → holdsF r x 4 r.pass 0
  put : 0 ≤ st → holdsF r x 2 r.pass st ∨ holdsF r x 3 r.pass 0
  place : ∀ kd ps nu, placeF r x = (kd, ps, nu) → (kd = 2 ∨ kd = 3 ∨ kd = 4) ∧ holdsF r x kd ps nu
end Go.Sx.Plt
namespace Go.Proofs.Ytkhaemjoekfhiaa
open Go Go.Sx Go.RowKit
attribute [local irreducible] WL WC WQ WR WB WF QB St Exit.then Exit.inBlock Exit.noGoto bodyPost roundPost beginK YR RG BM Calls B AgainD MeetD
/-! ## awake -/
theorem len20 : (Plt.playF (Plt.exPl 20)).length = 2 := by rw [Plt.playF_len]; rfl
theorem len14 : (Plt.playF (Plt.exPl 14)).length = 2 := by rw [Plt.playF_len]; rfl
set_option maxHeartbeats 16000000 in
set_option maxRecDepth 100000 in
theorem awake_calls (w : World) : Calls Try.prog 16 #[] w fun e w' => e = .returned (.bool true) ∧ Below w.heap.size w w' := by
  have hl20 := len20
  have hl14 := len14
  obtain ⟨r0, hr0, e01, e02, e03, e04, e05⟩ := Plt.ex20_r0
  obtain ⟨r1, hr1, e11, e12, e13, e14⟩ := Plt.ex20_r1
  obtain ⟨s0, hs0, f01⟩ := Plt.ex14_r0
  obtain ⟨s1, hs1, f11, f12, f13⟩ := Plt.ex14_r1
  refine f_enter0 Try.func16 rfl Try.ntmps16 rfl (Rep.start w) ?_
  repeat' (first | ((first | ((with_reducible apply o_call_new (f := 35)); exact rfl) | ((with_reducible apply q_call_new (f := 35)); exact rfl; exact rfl; exact sJ_)); exact eV_; exact (fun w _ => example_calls w); rintro v NE ⟨b1, b2, b3, b4, b5, b6, b7, b8, b9, rfl, rfl⟩ <;> (try simp only [List.cons_append, List.nil_append])) | ((first | ((with_reducible apply o_call_new (f := 11)); exact rfl) | ((with_reducible apply q_call_new (f := 11)); exact rfl; exact rfl; exact sJ_)); exact eV_; exact (fun w hw => play_calls31 (Plt.calm_of Plt.ex20_valid) w (ex_plV _ _ _ _ (by exact rL_) hw)); rintro v NR ⟨ar, cr, rds, rfl, ⟨hsh, hrl⟩, oR⟩ <;> (try simp only [List.cons_append, List.nil_append])) | ((with_reducible first | apply o_move | apply o_assign | apply o_faddr0 | apply o_not_d); exact rfl; exact rfl) | ((with_reducible apply gdo_load); first | refine wo_load (h := ?_) | refine wo_loadAll (h := ?_) | refine wo_loadC (h := ?_) | refine wo_ldV (h := ?_) | refine wo_ldF (h := ?_)) | ((with_reducible first | apply o_eql | apply o_neq | apply o_extract); exact rfl; exact rfl; exact rfl) | ((with_reducible apply o_pick_f); exact rfl; exact fF_; exact rfl; exact rfl) | ((with_reducible apply o_alloc); exact rfl; intro _) | ((with_reducible apply gdo_store); first | refine wo_store1 (h := ?_) | refine wo_storeA (h := ?_)) | ((with_reducible apply o_len); infer_instance; exact rfl; exact rfl) | ((with_reducible first | apply g_run); exact rfl; exact gG_) | ((with_reducible first | apply c_seq | apply c_block | apply c_region | apply c_nil | apply c_ret | apply c_exit | apply c_skip)) | ((with_reducible first | apply e_then | apply e_then_ret | apply e_then_exit | apply e_in | apply e_in_ret | apply e_in_same)) | ((with_reducible first | apply o_appd | apply o_appn)))
  refine st_know (fun w' hw' => RunsV.at (hsh _ _ _ _ (by exact rL_) hw') hr0) ?_
  rintro ⟨br, offr, x1, k1, x2, k2, x3, n3, k3, x4, n4, k4, x5, k5, x6, k6, x7, n7, k7, rfl, hd0, hn3, g0⟩
  refine st_know (fun w' hw' => RunsV.at (hsh _ _ _ _ (by exact rL_) hw') hr1) ?_
  rintro ⟨br', offr', y1, l1, y2, l2, y3, m3, l3, y4, m4, l4, y5, l5, y6, l6, y7, m7, l7, ebr, hd1, hm3, g1⟩
  cases ebr
  have hsl : (Plt.slc3 r0.pass r0.slices)[1]? = some (3, 10, 12) := by rw [e03, e04]; rfl
  refine st_know (fun w' hw' => SV.ptr ((hsh _ _ _ _ (by exact rL_) hw').2.2 0 _ _ hd0 hr0).slices hsl) ?_
  rintro ⟨bs, offs, rfl⟩
  have hsn0 : r0.slices.length = 2 := by rw [e04]; rfl
  repeat' (first | ((with_reducible apply o_pick_f); exact rfl; exact decide_eq_false (by omega); exact rfl; exact rfl) | ((with_reducible apply g_run); exact rfl; exact decide_eq_false (by omega)) | ((with_reducible apply o_idx (m := 0)); infer_instance; infer_instance; exact rfl; exact rfl; exact rfl; exact rfl; omega) | ((with_reducible apply o_idx (m := 1)); infer_instance; infer_instance; exact rfl; exact rfl; exact rfl; exact rfl; omega) | ((with_reducible apply o_ldP); infer_instance; exact rfl; (intro w' hw'; first | exact SV.cell (hsh _ _ _ _ (by exact rL_) hw').1 hd0 (g0 _ _ rfl) | exact SV.cell (hsh _ _ _ _ (by exact rL_) hw').1 hd1 (g1 _ _ rfl)); exact rfl) | ((with_reducible apply o_ldPV (l := [.int .i64 3, .int .i64 10, .int .i64 12])); infer_instance; infer_instance; exact rfl; (intro w' hw' j' v' hj'; exact SV.cell ((hsh _ _ _ _ (by exact rL_) hw').2.2 0 _ _ hd0 hr0).slices hsl hj'); exact rfl; exact rfl) | ((first | ((with_reducible apply o_call_pure (f := 20)); exact rfl) | ((with_reducible apply q_call_pure (f := 20)); exact rfl; kernel_rfl; exact rfl; exact sJ_)); exact eV_; exact (fun w hw => same_yes e13 w ((hsh _ _ _ _ (by exact rL_) hw).2.2 1 _ _ hd1 hr1).items (SV.lit [1, 3, 4, 2, 5] encI_len hw (by exact aT_) rfl rfl (by decide)))) | ((first | ((with_reducible apply o_call_pure (f := 24)); exact rfl) | ((with_reducible apply q_call_pure (f := 24)); exact rfl; kernel_rfl; exact rfl; exact sJ_)); exact eV_; exact (fun w hw => lists_is e05 w (((hsh _ _ _ _ (by exact rL_) hw).2.2 0 _ _ hd0 hr0).stk' rfl) (SV.lit ([(_, 3, 3), (_, 2, 2)] : List SD) encS_len hw (by exact aT_) rfl rfl (by decide)) (LL.two' (x := [1, 3, 4]) (y := [2, 5]) encI_len hw (by exact aT_) (by exact aT_) (by decide) (by decide)))) | ((first | ((with_reducible apply o_call_pure (f := 24)); exact rfl) | ((with_reducible apply q_call_pure (f := 24)); exact rfl; kernel_rfl; exact rfl; exact sJ_)); exact eV_; exact (fun w hw => lists_is e14 w (((hsh _ _ _ _ (by exact rL_) hw).2.2 1 _ _ hd1 hr1).stk' rfl) (SV.lit ([(_, 3, 3), (_, 2, 2)] : List SD) encS_len hw (by exact aT_) rfl rfl (by decide)) (LL.two' (x := [3, 2, 5]) (y := [1, 4]) encI_len hw (by exact aT_) (by exact aT_) (by decide) (by decide)))) | ((first | ((with_reducible apply o_call_pure (f := 36)); exact rfl) | ((with_reducible apply q_call_pure (f := 36)); exact rfl; kernel_rfl; exact rfl; exact sJ_)); exact eV_; exact (fun w hw => atp_calls Plt.ex20_valid Plt.ex20_w1 w (ex_plV _ _ _ _ (by exact rL_) hw))) | ((first | ((with_reducible apply o_call_pure (f := 36)); exact rfl) | ((with_reducible apply q_call_pure (f := 36)); exact rfl; kernel_rfl; exact rfl; exact sJ_)); exact eV_; exact (fun w hw => atp_calls Plt.ex20_valid Plt.ex20_w2 w (ex_plV _ _ _ _ (by exact rL_) hw))) | ((first | ((with_reducible apply o_call_pure (f := 36)); exact rfl) | ((with_reducible apply q_call_pure (f := 36)); exact rfl; kernel_rfl; exact rfl; exact sJ_)); exact eV_; exact (fun w hw => atp_calls Plt.ex20_valid Plt.ex20_w3 w (ex_plV _ _ _ _ (by exact rL_) hw))) | ((first | ((with_reducible apply o_call_pure (f := 36)); exact rfl) | ((with_reducible apply q_call_pure (f := 36)); exact rfl; kernel_rfl; exact rfl; exact sJ_)); exact eV_; exact (fun w hw => atp_calls Plt.ex20_valid Plt.ex20_w4 w (ex_plV _ _ _ _ (by exact rL_) hw))) | ((with_reducible first | apply o_move | apply o_assign | apply o_faddr0 | apply o_not_d); exact rfl; exact rfl) | ((with_reducible first | apply o_faddr); exact rfl; exact rfl) | ((with_reducible apply gdo_load); first | refine wo_load (h := ?_) | refine wo_loadAll (h := ?_) | refine wo_loadC (h := ?_) | refine wo_ldV (h := ?_) | refine wo_ldF (h := ?_)) | ((with_reducible first | apply o_eql | apply o_neq | apply o_extract); exact rfl; exact rfl; exact rfl) | ((with_reducible apply gdo_binOp_neq); refine wo_neq_s (h := ?_)) | ((with_reducible apply o_not); exact rfl; exact rfl) | ((with_reducible apply o_pick_f); exact rfl; exact fF_; exact rfl; exact rfl) | ((with_reducible apply o_alloc); exact rfl; intro _) | ((with_reducible apply gdo_store); first | refine wo_store1 (h := ?_) | refine wo_storeA (h := ?_)) | ((with_reducible apply gdo_build); first | refine wo_build (h := ?_)) | ((with_reducible apply o_len); infer_instance; exact rfl; exact rfl) | ((with_reducible apply gdo_buildSlice); refine wo_buildSlice (h := fun _ => ?_)) | ((with_reducible first | apply g_run); exact rfl; exact gG_) | ((with_reducible first | apply c_seq | apply c_block | apply c_region | apply c_nil | apply c_ret | apply c_exit | apply c_skip)) | ((with_reducible apply c_cond_f); exact rfl; exact fF_) | ((with_reducible first | apply e_then | apply e_then_ret | apply e_then_exit | apply e_in | apply e_in_ret | apply e_in_same)) | ((with_reducible first | apply o_appd | apply o_appn)))
  simp only [exN, exQ, sdV, List.cons_append, List.nil_append]
  repeat' (first | ((with_reducible apply o_idx (m := 0)); infer_instance; infer_instance; exact rfl; exact rfl; exact rfl; exact rfl; omega) | ((with_reducible apply o_idx (m := 1)); infer_instance; infer_instance; exact rfl; exact rfl; exact rfl; exact rfl; omega) | ((first | ((with_reducible apply o_call_new (f := 11)); exact rfl) | ((with_reducible apply q_call_new (f := 11)); exact rfl; exact rfl; exact sJ_)); exact eV_; exact (fun w hw => play_calls31 (Plt.calm_of Plt.ex14_valid) w (ex_plV (t := 14) _ _ _ _ (by unfold exN; exact rL_) hw)); rintro v NS_ ⟨as_, cs_, sds, rfl, ⟨hshs, hsl2⟩, oS⟩ <;> (try simp only [List.cons_append, List.nil_append])) | ((with_reducible first | apply o_move | apply o_assign | apply o_faddr0 | apply o_not_d); exact rfl; exact rfl) | ((with_reducible first | apply o_faddr); exact rfl; exact rfl) | ((with_reducible apply gdo_load); first | refine wo_load (h := ?_) | refine wo_loadAll (h := ?_) | refine wo_loadC (h := ?_) | refine wo_ldV (h := ?_) | refine wo_ldF (h := ?_)) | ((with_reducible first | apply o_eql | apply o_neq | apply o_extract); exact rfl; exact rfl; exact rfl) | ((with_reducible apply o_pick_t); exact rfl; exact tT_; exact rfl; exact rfl) | ((with_reducible apply gdo_store); first | refine wo_store1 (h := ?_) | refine wo_storeA (h := ?_)) | ((with_reducible apply o_len); infer_instance; exact rfl; exact rfl) | ((with_reducible first | apply g_run); exact rfl; exact gG_) | ((with_reducible first | apply c_seq | apply c_block | apply c_region | apply c_nil | apply c_ret | apply c_exit | apply c_skip)) | ((with_reducible first | apply e_then | apply e_then_ret | apply e_then_exit | apply e_in | apply e_in_ret | apply e_in_same)))
  refine st_know (fun w' hw' => RunsV.at (hshs _ _ _ _ (by exact rL_) hw') hs0) ?_
  rintro ⟨br, offr, x1, k1, x2, k2, x3, n3, k3, x4, n4, k4, x5, k5, x6, k6, x7, n7, k7, rfl, hd0, hn3, g0⟩
  refine st_know (fun w' hw' => RunsV.at (hshs _ _ _ _ (by exact rL_) hw') hs1) ?_
  rintro ⟨br', offr', y1, l1, y2, l2, y3, m3, l3, y4, m4, l4, y5, l5, y6, l6, y7, m7, l7, ebr, hd1, hm3, g1⟩
  cases ebr
  have hsi : s1.items.length = 0 := by rw [f13]; rfl
  repeat' (first | ((with_reducible apply o_pick_t); exact rfl; exact decide_eq_true (by omega); exact rfl; exact rfl) | ((with_reducible apply g_run); exact rfl; exact decide_eq_true (by omega)) | ((with_reducible apply o_idx (m := 0)); infer_instance; infer_instance; exact rfl; exact rfl; exact rfl; exact rfl; omega) | ((with_reducible apply o_idx (m := 1)); infer_instance; infer_instance; exact rfl; exact rfl; exact rfl; exact rfl; omega) | ((with_reducible apply o_ldP); infer_instance; exact rfl; (intro w' hw'; first | exact SV.cell (hshs _ _ _ _ (by exact rL_) hw').1 hd0 (g0 _ _ rfl) | exact SV.cell (hshs _ _ _ _ (by exact rL_) hw').1 hd1 (g1 _ _ rfl)); exact rfl) | ((first | ((with_reducible apply o_call_pure (f := 36)); exact rfl) | ((with_reducible apply q_call_pure (f := 36)); exact rfl; kernel_rfl; exact rfl; exact sJ_)); exact eV_; exact (fun w hw => atp_calls Plt.ex14_valid Plt.ex14_w w (ex_plV (t := 14) _ _ _ _ (by unfold exN; exact rL_) hw))) | ((with_reducible first | apply o_move | apply o_assign | apply o_faddr0 | apply o_not_d); exact rfl; exact rfl) | ((with_reducible first | apply o_faddr); exact rfl; exact rfl) | ((with_reducible apply gdo_load); first | refine wo_load (h := ?_) | refine wo_loadAll (h := ?_) | refine wo_loadC (h := ?_) | refine wo_ldV (h := ?_) | refine wo_ldF (h := ?_)) | ((with_reducible first | apply o_eql | apply o_neq | apply o_extract); exact rfl; exact rfl; exact rfl) | ((with_reducible apply o_len); infer_instance; exact rfl; exact rfl) | ((with_reducible first | apply c_seq | apply c_block | apply c_region | apply c_nil | apply c_ret | apply c_exit | apply c_skip)) | ((with_reducible first | apply e_then | apply e_then_ret | apply e_then_exit | apply e_in | apply e_in_ret | apply e_in_same)))
  apply r_body; apply res1 Try.results16; exact rV_; intro w' hw
  refine ⟨by simp, hw.below (show AO _ from by exact aO_)⟩
end Go.Proofs.Ytkhaemjoekfhiaa
namespace Go.Sx
open Go Go.RowKit
section
variable {P : Program} {n : Nat} {D : List Deferred} {w0 : World} {F : List (Nat × Value)} {L : List Ent} {J J1 : Made} {Φ : Specs} {X : Act → World → Prop} {kq : Nat} {ops : Array Oper}
variable {d : Tmp} {ty : TypeId} {pos : String} {af : Array Edge} {rest : List Oper}
theorem q_ldP {t : TypeId} {x : Operand} {b p : Nat} {v : Value} (hA : TA P t false) (hx : ev F x = some (.pointer (some ⟨b, p, none⟩))) (hΦ : Φ kq = none) (hJ : SubJ ((anc ops).getD kq 0) J1 J) (hc : ∀ w, Rep w0 w (ents J1 L) → w.cell? ⟨b, p, none⟩ = some v)
    (hd : Nat.ble (d + 1) n = true) (h : St n D w0 ((d, v) :: F) L (WQ P ops w0 L Φ X (kq + 1) J rest)) : St n D w0 F L (WQ P ops w0 L Φ X kq J (⟨some d, .load t x, ty, pos, af, none⟩ :: rest)) :=
  q_val rfl hd hΦ hJ (fun a w ha hw => by
    simp [execOp, ha.eval hx, Instr.loadAt, Instr.sureAddr, loadVar, TA.h (P := P) (t := t), hc w hw]) h
end
end Go.Sx
namespace Go.Proofs.Ytkhaemjoekfhiaa
open Go Go.Sx Go.RowKit
attribute [local irreducible] WL WC WQ WR WB WF QB St Exit.then Exit.inBlock Exit.noGoto bodyPost roundPost beginK YR RG BM Calls B AgainD MeetD
/-! ## a plant that built made, as it lies -/
theorem built_plv {p : Plt.Plant} {am ai ap : Option Addr} {cm ci cp : Nat} {ds : List MD} {ys : List PD} {NM NI NP NX : List Ent} {TM TI TP : TypeId} (hM : OW TM 5 encMD (.slice am p.ms.length cm) ds NM) (hI : OW TI 3 encItem (.slice ai p.items.length ci) p.items NI) (hP : OW TP 6 encPD (.slice ap p.passes.length cp) ys NP)
    (hl : ds.length = p.ms.length ∧ ys.length = p.passes.length) (hX : Shw NX (fun w => ∀ (i : Nat) (d : MD) (m : Plt.Mach), ds[i]? = some d → p.ms[i]? = some m → MachV w d m)) (hY : Shw NX (fun w => ∀ (i : Nat) (d : PD) (y : Plt.Pass), ys[i]? = some d → p.passes[i]? = some y → PassV w d y)) :
    Shw (NM ++ (NI ++ (NP ++ NX))) (fun w => PlV w ⟨(am, p.ms.length, cm), (ai, p.items.length, ci), (ap, p.passes.length, cp), ds, ys⟩ p) := fun w0 w L L0 hr hw =>
  ⟨(Shw.left (Shw.ow encMD_len hM)) w0 w L L0 hr hw, (Shw.right (Shw.left (Shw.ow encItem_len hI))) w0 w L L0 hr hw, (Shw.right (Shw.right (Shw.left (Shw.ow encPD_len hP)))) w0 w L L0 hr hw, hl.1, hl.2,
    (Shw.right (Shw.right (Shw.right hX))) w0 w L L0 hr hw, (Shw.right (Shw.right (Shw.right hY))) w0 w L L0 hr hw⟩
def builtψ (p : Plt.Plant) (v : Value) (N : List Ent) : Prop := ∃ am cm ai ci ap cp ds ys, v = .agg #[.slice am p.ms.length cm, .slice ai p.items.length ci, .slice ap p.passes.length cp] ∧
  Shw N (fun w => PlV w ⟨(am, p.ms.length, cm), (ai, p.items.length, ci), (ap, p.passes.length, cp), ds, ys⟩ p) ∧ ∀ x ∈ N, x.own = true
/-- What the laws know of a plant that built made. -/
structure Nice (p : Plt.Plant) : Prop where
  valid : Plt.validF p = (0, 0)
  ms : 1 ≤ p.ms.length ∧ p.ms.length ≤ 3
  items : p.items.length ≤ 40
  passes : p.passes.length ≤ 6
theorem nice_built (x : Plt.Sk) : Nice (Plt.built x) :=
  ⟨Plt.built_valid x, Plt.bMs_len x, by show (Plt.bIs x).length ≤ 40; unfold Plt.bIs; rw [Plt.bIsN_len]; omega, by show (Plt.bAt (Plt.bMs x) (Plt.bIs x) x.ps (min x.ps.length 6)).2.length ≤ 6; rw [Plt.bAt_len]; omega⟩
end Go.Proofs.Ytkhaemjoekfhiaa
namespace Go.Sx.Plt
/-! ## the last run that has sorted an item -/
def lastI : Option Nat → Int
  | none => -1
  | some k => k
/-- The same, after the first n items of run k. -/
def keepsF (p : Plant) (x t : Int) (k : Nat) (r : Run) (n : Nat) : Int := if x ∈ r.items.take n ∧ sortedAt p x t k = true then (k : Int) else lastI (lastF p x t k)
end Go.Sx.Plt
namespace Go.Sx.Plt
open Go.Proofs.Ytkhaemjoekfhiaa (mslF_keys psF tkF psF_snoc tkF_snoc)
/-- The stacker of a stop; -1 if it has none, or the item is not read. -/
def toF (l : List Row) (stop : Int) (b : Bool) : Int := if b = true then (asF stop (tableF l)).getD (-1) else -1
theorem Ran.mem {p : Plant} (hv : Valid p) {i : Nat} {y : Pass} (hy : p.passes[i]? = some y) {m : Mach} (hm : asF y.mach (mslF p.ms) = some (m.caps.length : Int)) {r : Run} {ready : Int} (hc : Ran p (hallAt p i) m y r ready) : (∀ x ∈ r.items, x ∈ p.items.map Item.id) ∧ r.items.Nodup ∧ r.items.length ≤ 2000 := by
  have e := (takeSrc_spec hc.take).1
  rw [List.nil_append] at e
  obtain ⟨_, h1, h2⟩ := hv.feeds (Inv.all hv i) hy hm e
  exact ⟨h1, h2, by rw [hc.items hv hy]; exact hv.taken_len hy⟩
theorem Ran.fin_bd {p : Plant} (hv : Valid p) {i : Nat} {y : Pass} (hy : p.passes[i]? = some y) {m : Mach} (hm : rightM m) {r : Run} {ready : Int} (hc : Ran p (hallAt p i) m y r ready) : (0 ≤ ready ∧ ready ≤ 1051898399) ∧ 0 ≤ r.fin ∧ r.fin ≤ 1051898399 := by
  have hrd := (Inv.all hv i).ready (hv.pok i y hy).1.2.2 hc.take
  refine ⟨hrd, (Inv.all hv i).fin (start := r.start) (sl := r.slices) hv hy hm hc.take ?_⟩
  by_cases hne : r.items = []
  · exact .inl ⟨hne, by rw [hc.slices, if_pos hne], by rw [hc.start, if_pos hne], by rw [hc.fin, if_pos hne]⟩
  · have hsl := hc.slices
    have hst := hc.start
    have hfi := hc.fin
    rw [if_neg hne] at hsl hst hfi
    have hsp := span_min (rel := ready) (l := m.shifts) (need_nonneg (n := r.items.length) hm.2.1.1)
    have he := hc.enough
    have hn1 : 1 ≤ needOf r.items.length m.rate := by
      have := List.length_pos_iff.2 hne
      have := hm.2.1.1
      unfold needOf
      exact Int.le_ediv_of_mul_le (by omega) (by omega)
    refine .inr ⟨hne, hsl, fun h0 => ?_, by rw [hsl, hsp]; omega, hst, hfi⟩
    rw [← hsl, h0, spanF] at hsp
    omega
end Go.Sx.Plt
namespace Go.Proofs.Ytkhaemjoekfhiaa
open Go Go.Sx Go.RowKit
attribute [local irreducible] WL WC WQ WR WB WF QB St Exit.then Exit.inBlock Exit.noGoto bodyPost roundPost beginK YR RG BM Calls B AgainD MeetD
theorem PassV.eqs {w : World} {d : PD} {y : Plt.Pass} (h : PassV w d y) : ∃ x1 k1 x2 k2 x3 k3, d = ⟨y.id, y.mach, y.rel, (x1, y.src.length, k1), (x2, y.table.length, k2), (x3, y.unread.length, k3)⟩ := by
  obtain ⟨x1, k1, e1⟩ := h.src.sd
  obtain ⟨x2, k2, e2⟩ := h.table.sd
  obtain ⟨x3, k3, e3⟩ := h.unread.sd
  refine ⟨x1, k1, x2, k2, x3, k3, ?_⟩
  obtain ⟨a, b, c, i1, i2, i3⟩ := d
  obtain rfl : a = y.id := h.id
  obtain rfl : b = y.mach := h.mach
  obtain rfl : c = y.rel := h.rel
  dsimp only at e1 e2 e3
  rw [e1, e2, e3]
end Go.Proofs.Ytkhaemjoekfhiaa
namespace Go.Sx.Plt
open Go.Proofs.Ytkhaemjoekfhiaa (mslF_keys psF tkF psF_snoc tkF_snoc)
/-! ## where slices end -/
def endF (e : Int) (l : List (Int × Int)) : Int := match l.getLast? with
  | some s => s.2
  | none => e
theorem endF_nil (e : Int) : endF e [] = e := rfl
theorem endF_last (e : Int) {l : List (Int × Int)} (h : l ≠ []) : endF e l = (l.getLastD (0, 0)).2 := by
  unfold endF
  rw [List.getLastD_eq_getLast?]
  cases hl : l.getLast? with
  | none => rw [List.getLast?_eq_none_iff] at hl; exact (h hl).elim
  | some s => rfl
theorem chain_at : ∀ {l : List (Int × Int)} {e : Int} {j : Nat} {s : Int × Int}, Chain e l → l[j]? = some s → endF e (l.take j) ≤ s.1 ∧ s.1 < s.2
  | [], _, _, _, _, h => by simp at h
  | a :: r, e, 0, s, hc, h => by
    simp at h; subst h
    rw [List.take_zero, endF_nil]; exact hc.1
  | a :: r, e, j + 1, s, hc, h => by
    have h' : r[j]? = some s := by simpa using h
    have ih := chain_at hc.2 h'
    rw [List.take_succ_cons]
    have : endF e (a :: r.take j) = endF a.2 (r.take j) := by
      unfold endF
      rw [List.getLast?_cons]
      cases (r.take j).getLast? <;> rfl
    rw [this]; exact ih
/-- What the slices of a run are. -/
theorem Ran.chain {p : Plant} {h : Hall} {m : Mach} {y : Pass} {r : Run} {ready : Int} (hc : Ran p h m y r ready) (hm : rightM m) : Chain ready r.slices ∧ (∀ s ∈ r.slices, ∃ x ∈ m.shifts, x.f ≤ s.1 ∧ s.2 ≤ x.t) ∧ spanF r.slices = needOf r.items.length m.rate ∧ r.fin = endF ready r.slices ∧ ((r.slices = [] ∧ r.start = ready) ∨ ∃ s, r.slices[0]? = some s ∧ r.start = s.1) ∧ ready ≤ r.start := by
  have hw := (right_shifts hm).2
  have hn0 := need_nonneg (n := r.items.length) hm.2.1.1
  have hch := Chain.mono (show ready ≤ max 0 ready by omega) (slices_chain (rel := ready) hn0 hw)
  have hsl := hc.slices
  have hst := hc.start
  have hfi := hc.fin
  by_cases hne : r.items = []
  · rw [if_pos hne] at hsl hst hfi
    have hz : needOf r.items.length m.rate = 0 := by
      rw [hne]
      unfold needOf
      have := hm.2.1.1
      exact Int.ediv_eq_zero_of_lt (by simp; omega) (by simp; omega)
    rw [hsl, hz]
    exact ⟨trivial, by simp, rfl, by rw [endF_nil]; exact hfi, .inl ⟨rfl, hst⟩, by omega⟩
  · rw [if_neg hne] at hsl hst hfi
    have hsp := span_min (rel := ready) (l := m.shifts) hn0
    have he := hc.enough
    have hn1 : 1 ≤ needOf r.items.length m.rate := by
      have := List.length_pos_iff.2 hne
      have := hm.2.1.1
      unfold needOf
      exact Int.le_ediv_of_mul_le (by omega) (by omega)
    rw [← hsl] at hsp hch
    have hnn : r.slices ≠ [] := fun h0 => by rw [h0, spanF] at hsp; omega
    obtain ⟨s, l, e⟩ := List.exists_cons_of_ne_nil hnn
    have h0 : r.slices[0]? = some s := by rw [e]; rfl
    have hs1 : r.start = s.1 := by rw [hst, e]; rfl
    refine ⟨hch, fun s hs => ?_, by rw [hsp]; omega, by rw [endF_last _ hnn]; exact hfi, .inr ⟨s, h0, hs1⟩, ?_⟩
    · rw [hsl] at hs
      exact slices_inside hn0 s hs
    · have := chain_at hch h0
      rw [List.take_zero, endF_nil] at this
      omega
/-! ## when passes end -/
/-- The end of run j. -/
def finF (p : Plant) (j : Nat) : Int := match (playF p)[j]? with
  | some r => r.fin
  | none => -1
theorem finF_at {p : Plant} {j : Nat} {r : Run} (h : (playF p)[j]? = some r) : finF p j = r.fin := by unfold finF; rw [h]
/-! ## the law's words -/
def takesF (src : List (Int × Int)) (id : Int) : Bool := src.any fun s => s.1 = id
/-- When a pass is ready by the runs of the first j passes, and whether what it takes was run. -/
def rdF (p : Plant) (y : Pass) : Nat → Int × Bool
  | 0 => (y.rel, true)
  | j + 1 => match p.passes[j]? with
    | some z => (if takesF y.src z.id = true ∨ z.mach = y.mach then max (rdF p y j).1 (finF p j) else (rdF p y j).1, (rdF p y j).2 && (!takesF y.src z.id || decide (0 ≤ finF p j)))
    | none => rdF p y j
theorem fin_bd {p : Plant} (hv : Valid p) (j : Nat) : -1 ≤ finF p j ∧ finF p j ≤ 1051898399 := by
  unfold finF
  cases hr : (playF p)[j]? with
  | none => dsimp only; omega
  | some r =>
    dsimp only
    obtain ⟨y, hy⟩ : ∃ y, p.passes[j]? = some y := ⟨_, List.getElem?_eq_getElem (by have := (List.getElem?_eq_some_iff.1 hr).1; rw [playF_len] at this; exact this)⟩
    obtain ⟨k, m, _, _, hmr, _, _, _, hc⟩ := hv.run hy hr
    rcases hc with hc | ⟨ready, hc⟩
    · rw [hc.eq]; show -1 ≤ (-1 : Int) ∧ (-1 : Int) ≤ 1051898399; omega
    · have := (hc.fin_bd hv hy hmr).2; omega
/-! ## working time inside a shift -/
def insideF (sf su : Int) (l : List Sh) : Bool := l.any fun h => decide (h.f ≤ sf ∧ su ≤ h.t)
end Go.Sx.Plt
namespace Go.Sx.Plt
/-! ## greater rates -/
theorem haveF_mono {t t' : Int} (h : t' ≤ t) : ∀ l : List Sh, haveF t l ≤ haveF t' l
  | [] => by simp [haveF]
  | a :: r => by have := haveF_mono h r; rw [haveF, haveF]; omega
theorem need_mono {n : Nat} {r r' : Int} (hr : 1 ≤ r) (h : r ≤ r') : needOf n r' ≤ needOf n r := by
  have h0 := need_nonneg (n := n) hr
  have h1 := need_lt (k := needOf n r) (n := (n : Int)) hr
  have h2 := need_lt (k := needOf n r) (n := (n : Int)) (r := r') (by omega)
  have h3 : ¬ needOf n r * r < n := fun hh => by have := h1.2 hh; unfold needOf at this; omega
  have h4 : needOf n r * r ≤ needOf n r * r' := Int.mul_le_mul_of_nonneg_left h h0
  have h5 : ¬ needOf n r < ((n : Int) + r' - 1) / r' := fun hh => by have := h2.1 hh; omega
  unfold needOf at h5 ⊢
  omega
theorem endF_cons (e : Int) (s : Int × Int) : ∀ l : List (Int × Int), endF e (s :: l) = endF s.2 l
  | [] => rfl
  | a :: r => by simp [endF, List.getLast?_cons_cons]; cases h : (a :: r).getLast? with
    | none => simp at h
    | some x => rfl
theorem slices_none (rel : Int) : ∀ l : List Sh, slicesF rel 0 l = []
  | [] => rfl
  | a :: r => by rw [slicesF, if_pos (.inl rfl)]; exact slices_none rel r
theorem slices_fast {rel rel' : Int} (hr : rel' ≤ rel) : ∀ {l : List Sh} {b : Int} {i : Nat} {left left' e e' : Int}, wrongS b i l = none → 0 ≤ left' → left' ≤ left → left ≤ haveF rel l → (left = 0 → e' ≤ e) → e' ≤ b →
    endF e' (slicesF rel' left' l) ≤ endF e (slicesF rel left l)
  | [], b, i, left, left', e, e', hw, h0, hl, hh, he, hb => by
    rw [haveF] at hh
    rw [slicesF, slicesF, endF_nil, endF_nil]
    omega
  | h :: r, b, i, left, left', e, e', hw, h0, hl, hh, he, hb => by
    rw [wrongS] at hw
    split at hw
    case isFalse => cases hw
    rename_i hok
    unfold Sh.ok at hok
    rw [haveF] at hh
    have h9 := haveF_nonneg rel r
    by_cases hz : left = 0
    · obtain rfl : left' = 0 := by omega
      subst hz
      rw [slices_none, slices_none, endF_nil, endF_nil]
      exact he rfl
    · by_cases hs : h.t ≤ max h.f rel
      · have e1 : slicesF rel left (h :: r) = slicesF rel left r := by rw [slicesF, if_pos (.inr hs)]
        rw [e1, slicesF]
        split
        · exact slices_fast hr hw h0 hl (by omega) (by omega) (by omega)
        · rw [endF_cons]
          exact slices_fast hr hw (by omega) (by omega) (by omega) (by omega) (by omega)
      · have e1 : slicesF rel left (h :: r) = (max h.f rel, min h.t (max h.f rel + left)) :: slicesF rel (left - (min h.t (max h.f rel + left) - max h.f rel)) r := by rw [slicesF, if_neg (by omega)]
        rw [e1, slicesF, endF_cons]
        split
        · exact slices_fast hr hw (by omega) (by omega) (by omega) (by omega) (by omega)
        · rw [endF_cons]
          exact slices_fast hr hw (by omega) (by omega) (by omega) (by omega) (by omega)
theorem take_fast {A B : Hall} (hrow : ∀ s, B.row s = A.row s) (hend : ∀ id e, asF id A.ends = some e → ∃ e', asF id B.ends = some e' ∧ e' ≤ e) : ∀ {l : List (Int × Int)} {r r' ready : Int} {acc items : List Int}, r' ≤ r → takeSrc A r acc l = some (ready, items) →
    ∃ ready', takeSrc B r' acc l = some (ready', items) ∧ ready' ≤ ready
  | [], r, r', ready, acc, items, hr, h => by
    rw [takeSrc] at h ⊢
    cases h
    exact ⟨r', rfl, hr⟩
  | s :: l, r, r', ready, acc, items, hr, h => by
    rw [takeSrc] at h ⊢
    by_cases hs : s.1 ≠ 0
    · rw [if_pos hs] at h ⊢
      cases ha : asF s.1 A.ends with
      | none => rw [ha] at h; cases h
      | some e =>
        rw [ha] at h
        obtain ⟨e', hb, hle⟩ := hend _ _ ha
        rw [hb, hrow]
        exact take_fast hrow hend (by omega) h
    · rw [if_neg hs] at h ⊢
      rw [hrow]
      exact take_fast hrow hend hr h
/-- A hall of runs that were faster. -/
structure Faster (A B : Hall) : Prop where
  rows : B.rows = A.rows
  ends : ∀ id e, asF id A.ends = some e → ∃ e', asF id B.ends = some e' ∧ e' ≤ e
  free : ∀ id, (asF id B.free).getD 0 ≤ (asF id A.free).getD 0
/-- The same machines with greater rates. -/
structure Raised (p q : Plant) : Prop where
  items : q.items = p.items
  passes : q.passes = p.passes
  ms : ∀ (k : Nat) (m : Mach), p.ms[k]? = some m → ∃ m', q.ms[k]? = some m' ∧ (m'.id = m.id ∧ m'.sweeps = m.sweeps) ∧ (m'.caps = m.caps ∧ m'.shifts = m.shifts) ∧ m.rate ≤ m'.rate
theorem Ran.fin_end {p : Plant} {h : Hall} {m : Mach} {y : Pass} {r : Run} {ready : Int} (hc : Ran p h m y r ready) (hne : r.items ≠ []) : r.fin = endF 0 (slicesF ready (needOf r.items.length m.rate) m.shifts) := by
  have h1 := hc.slices
  have h2 := hc.fin
  rw [if_neg hne] at h1 h2
  rw [← h1, h2, endF]
  cases he : r.slices.getLast? with
  | none => rw [List.getLast?_eq_none_iff.1 he]; rfl
  | some s => rw [List.getLastD_eq_getLast?, he]; rfl
/-- What is the same, and what is earlier. -/
def FastRun (r r' : Run) : Prop := (0 ≤ r'.fin ∧ r'.fin ≤ r.fin) ∧ r'.items = r.items ∧ r'.res.stackers = r.res.stackers
theorem run_fast {p q : Plant} (hv : Valid p) (hq : Valid q) (hR : Raised p q) {i : Nat} (hA : Faster (hallAt p i) (hallAt q i)) {y : Pass} (hy : p.passes[i]? = some y) {r : Run} (hr : (playF p)[i]? = some r) (hfin : 0 ≤ r.fin) :
    Faster (hallAt p (i + 1)) (hallAt q (i + 1)) ∧ ∃ r', (playF q)[i]? = some r' ∧ FastRun r r' := by
  have hyq : q.passes[i]? = some y := by rw [hR.passes]; exact hy
  obtain ⟨r', hr'⟩ := Valid.get hyq
  obtain ⟨k, m, hm, hmid, hmr, -, hh1, hmsl, hcs⟩ := hv.run hy hr
  obtain ⟨k', m', hm', hmid', hmr', -, hh2, hmsl', hcs'⟩ := hq.run hyq hr'
  obtain ⟨m2, h2, ⟨h2a, h2b⟩, ⟨h2c, h2d⟩, h2e⟩ := hR.ms k m hm
  have hmm : m' = m2 := by
    have e1 := machF_of hq.mnd hm'
    have e2 := machF_of hq.mnd h2
    rw [hmid'] at e1
    rw [h2a, hmid] at e2
    rw [← e1, e2]
  subst hmm
  clear h2
  rcases hcs with hc | ⟨ready, hc⟩
  · rw [hc.eq] at hfin
    exact absurd hfin (by show ¬ (0 : Int) ≤ -1; omega)
  have hrow : ∀ s, (hallAt q i).row s = (hallAt p i).row s := fun s => by unfold Hall.row; rw [hA.rows]
  have hfr := hA.free m.id
  obtain ⟨ready', ht', hrl⟩ := take_fast hrow hA.ends (r := max y.rel ((asF m.id (hallAt p i).free).getD 0)) (r' := max y.rel ((asF m'.id (hallAt q i).free).getD 0)) (by rw [h2a]; omega) hc.take
  have hrate := hmr.2.1.1
  have hnm := need_mono (n := r.items.length) hrate h2e
  have hhm := haveF_mono hrl m.shifts
  have hen := hc.enough
  have hst : stopsF q.items = stopsF p.items := by rw [hR.items]
  have hno : ¬ Miss q (hallAt q i) m' y r' := fun hc' => by
    have hw := hc'.why _ _ ht'
    have := (need_lt (k := haveF ready' m'.shifts) (n := (r.items.length : Int)) (r := m'.rate) (by omega)).2 hw
    rw [h2d] at this
    unfold needOf at hnm hen
    omega
  rcases hcs' with hc' | ⟨rd2, hc'⟩
  · exact absurd hc' hno
  have htt := hc'.take
  rw [ht'] at htt
  obtain ⟨rfl, hit⟩ : ready' = rd2 ∧ r.items = r'.items := by
    have := Option.some.inj htt
    exact ⟨congrArg Prod.fst this, congrArg Prod.snd this⟩
  have hres : r'.res = r.res := by
    have g1 := hc.res
    have g2 := hc'.res
    rw [← hit, h2c, h2b, hst, g1] at g2
    exact (congrArg Prod.fst g2).symm
  have hfb := (hc'.fin_bd hq hyq hmr').2
  have hfl : r'.fin ≤ r.fin := by
    by_cases hne : r.items = []
    · have f1 := hc.fin
      have f2 := hc'.fin
      rw [if_pos hne] at f1
      rw [if_pos (by rw [← hit]; exact hne)] at f2
      omega
    · have f1 := hc.fin_end hne
      have f2 := hc'.fin_end (by rw [← hit]; exact hne)
      rw [← hit, h2d] at f2
      rw [f1, f2]
      exact slices_fast hrl (right_shifts hmr).2 (need_nonneg (by omega)) hnm hen (fun _ => Int.le_refl 0) (Int.le_refl 0)
  refine ⟨?_, r', hr', ⟨hfb.1, hfl⟩, hit.symm, by rw [hres]⟩
  rw [hh1, hh2, hc.hall, hc'.hall]
  refine ⟨?_, fun id e he => ?_, fun id => ?_⟩
  · dsimp only
    rw [hres, hA.rows]
  · dsimp only at he ⊢
    rw [asF_put] at he ⊢
    by_cases hid : y.id = id
    · rw [if_pos hid] at he ⊢
      cases he
      exact ⟨_, rfl, hfl⟩
    · rw [if_neg hid] at he ⊢
      exact hA.ends id e he
  · dsimp only
    rw [asF_put, asF_put, h2a]
    by_cases hid : m.id = id
    · rw [if_pos hid, if_pos hid]
      exact hfl
    · rw [if_neg hid, if_neg hid]
      exact hA.free id
theorem play_fast {p q : Plant} (hv : Valid p) (hq : Valid q) (hR : Raised p q) (hall : ∀ (j : Nat) (r : Run), (playF p)[j]? = some r → 0 ≤ r.fin) : ∀ i, i ≤ p.passes.length → Faster (hallAt p i) (hallAt q i)
  | 0, _ => by
    rw [hallAt_zero, hallAt_zero]
    unfold hall0
    rw [hR.items]
    exact ⟨rfl, fun id e h => ⟨e, h, Int.le_refl _⟩, fun id => Int.le_refl _⟩
  | i + 1, hi => by
    have hA := play_fast hv hq hR hall i (by omega)
    obtain ⟨y, hy⟩ : ∃ y, p.passes[i]? = some y := ⟨_, List.getElem?_eq_getElem (by omega)⟩
    obtain ⟨r, hr⟩ := Valid.get hy
    exact (run_fast hv hq hR hA hy hr (hall i r hr)).1
theorem fast_at {p q : Plant} (hv : Valid p) (hq : Valid q) (hR : Raised p q) (hall : ∀ (j : Nat) (r : Run), (playF p)[j]? = some r → 0 ≤ r.fin) {i : Nat} {r r' : Run} (hr : (playF p)[i]? = some r) (hr' : (playF q)[i]? = some r') : FastRun r r' := by
  have hi : i < p.passes.length := by rw [← playF_len]; exact (List.getElem?_eq_some_iff.1 hr).1
  obtain ⟨y, hy⟩ : ∃ y, p.passes[i]? = some y := ⟨_, List.getElem?_eq_getElem hi⟩
  obtain ⟨r2, h2, h3⟩ := (run_fast hv hq hR (play_fast hv hq hR hall i (by omega)) hy hr (hall i r hr)).2
  rw [hr'] at h2
  cases h2
  exact h3
end Go.Sx.Plt
namespace Go.Proofs.Ytkhaemjoekfhiaa
open Go Go.Sx Go.RowKit
section
variable {r : Option Nat} {P : Program} {n : Nat} {D : List Deferred} {w0 : World} {F : List (Nat × Value)} {L : List Ent} {Q : Exit → Act → World → Prop} {ops : Array Oper}
variable {d : Tmp} {ty : TypeId} {pos : String} {af : Array Edge} {rest : List Oper}
end
attribute [local irreducible] WL WC WQ WR WB WF QB St Exit.then Exit.inBlock Exit.noGoto bodyPost roundPost beginK YR RG BM Calls B AgainD MeetD
/-! ## PlantKeeps -/
end Go.Proofs.Ytkhaemjoekfhiaa
namespace Go.Sx.Plt
/-! ## rates raised -/
def up (bs : List UInt8) (n i : Nat) (m : Mach) : Mach := if i < n then { m with rate := m.rate + nb bs i % 16 } else m
def raised (bs : List UInt8) (n : Nat) (p : Plant) : Plant := { p with ms := p.ms.mapIdx (up bs n) }
theorem raised_get (bs : List UInt8) (n : Nat) (p : Plant) (k : Nat) : (raised bs n p).ms[k]? = (p.ms[k]?).map (up bs n k) := by
  show (p.ms.mapIdx (up bs n))[k]? = _
  rw [List.getElem?_mapIdx]
theorem raised_len (bs : List UInt8) (n : Nat) (p : Plant) : (raised bs n p).ms.length = p.ms.length := List.length_mapIdx
theorem up_id (bs : List UInt8) (n i : Nat) (m : Mach) : (up bs n i m).id = m.id := by unfold up; split <;> rfl
theorem up_caps (bs : List UInt8) (n i : Nat) (m : Mach) : (up bs n i m).caps = m.caps := by unfold up; split <;> rfl
theorem up_sweeps (bs : List UInt8) (n i : Nat) (m : Mach) : (up bs n i m).sweeps = m.sweeps := by unfold up; split <;> rfl
theorem up_shifts (bs : List UInt8) (n i : Nat) (m : Mach) : (up bs n i m).shifts = m.shifts := by unfold up; split <;> rfl
theorem up_rate (bs : List UInt8) (n i : Nat) (m : Mach) : m.rate ≤ (up bs n i m).rate ∧ (up bs n i m).rate ≤ m.rate + 15 := by
  have := nb_bd bs i
  unfold up
  split
  · dsimp only; omega
  · omega
theorem raised_map {bs : List UInt8} {n : Nat} {β : Type} (f : Mach → β) (hf : ∀ i m, f (up bs n i m) = f m) (p : Plant) : (raised bs n p).ms.map f = p.ms.map f := by
  apply List.ext_getElem?
  intro k
  rw [List.getElem?_map, List.getElem?_map, raised_get]
  cases p.ms[k]? with
  | none => rfl
  | some m => exact congrArg some (hf k m)
theorem raised_of (bs : List UInt8) (n : Nat) (p : Plant) : Raised p (raised bs n p) :=
  ⟨rfl, rfl, fun k m h => ⟨_, by rw [raised_get, h]; rfl, ⟨up_id .., up_sweeps ..⟩, ⟨up_caps .., up_shifts ..⟩, (up_rate bs n k m).1⟩⟩
theorem raised_valid {p : Plant} (hv : Valid p) (hr : ∀ m ∈ p.ms, m.rate ≤ 985) (bs : List UInt8) (n : Nat) : validF (raised bs n p) = (0, 0) := by
  have hm : mslF (raised bs n p).ms = mslF p.ms := raised_map _ (fun i m => by rw [up_id, up_caps]) p
  refine validF_of ⟨by rw [raised_len]; exact hv.small.1, hv.small.2⟩ (by rw [raised_map (n := n) (bs := bs) Mach.id (fun i m => up_id ..)]; exact hv.mnd) (fun m h => ?_) hv.ind hv.iok (by rw [hm]; exact hv.pok)
  obtain ⟨k, hk⟩ := List.getElem?_of_mem h
  rw [raised_get] at hk
  cases hp : p.ms[k]? with
  | none => rw [hp] at hk; cases hk
  | some m0 =>
    rw [hp] at hk
    cases hk
    have h0 := hv.right m0 (List.mem_of_getElem? hp)
    have h1 := hr m0 (List.mem_of_getElem? hp)
    have h2 := up_rate bs n k m0
    obtain ⟨g1, g2, g3, g4⟩ := h0
    refine ⟨by rw [up_id]; exact g1, by omega, by rw [up_caps, up_sweeps]; exact g3, by rw [up_shifts]; exact g4⟩
theorem built_rate (x : Sk) : ∀ m ∈ (built x).ms, m.rate ≤ 985 := fun m hm => by
  obtain ⟨j, hj⟩ := List.getElem?_of_mem (show m ∈ bMs x from hm)
  obtain ⟨hj1, rfl⟩ := bMach_id hj
  have h2 := nb_bd x.ms (j + 2)
  show 1 + nb x.ms (j + 2) % 5 ≤ 985
  omega
end Go.Sx.Plt
namespace Go.Proofs.Ytkhaemjoekfhiaa
open Go Go.Sx Go.RowKit
attribute [local irreducible] WL WC WQ WR WB WF QB St Exit.then Exit.inBlock Exit.noGoto bodyPost roundPost beginK YR RG BM Calls B AgainD MeetD
def upD (bs : List UInt8) (n i : Nat) (d : MD) : MD := if i < n then { d with rate := d.rate + Plt.nb bs i % 16 } else d
def upDs (bs : List UInt8) (n : Nat) (ds : List MD) : List MD := ds.mapIdx (upD bs n)
theorem upDs_get (bs : List UInt8) (n : Nat) (ds : List MD) (k : Nat) : (upDs bs n ds)[k]? = (ds[k]?).map (upD bs n k) := by unfold upDs; rw [List.getElem?_mapIdx]
theorem upDs_len (bs : List UInt8) (n : Nat) (ds : List MD) : (upDs bs n ds).length = ds.length := List.length_mapIdx
theorem upDs_zero (bs : List UInt8) (ds : List MD) : upDs bs 0 ds = ds := by
  apply List.ext_getElem?
  intro k
  rw [upDs_get]
  cases ds[k]? with
  | none => rfl
  | some d => simp [upD]
theorem upDs_at {bs : List UInt8} {n : Nat} {ds : List MD} {d : MD} (h : ds[n]? = some d) : (upDs bs n ds)[n]? = some d := by rw [upDs_get, h]; simp [upD]
theorem upDs_set {bs : List UInt8} {n : Nat} {ds : List MD} {d : MD} {nr : Int} (h : ds[n]? = some d) (hr : d.rate + Plt.nb bs n % 16 = nr) : (upDs bs n ds).set n { d with rate := nr } = upDs bs (n + 1) ds := by
  subst hr
  apply List.ext_getElem?
  intro k
  rw [List.getElem?_set, upDs_get, upDs_len]
  by_cases hk : n = k
  · subst hk
    have := (List.getElem?_eq_some_iff.1 h).1
    rw [if_pos rfl, if_pos this, upDs_get, h]
    simp [upD]
  · rw [if_neg hk, upDs_get]
    cases ds[k]? with
    | none => rfl
    | some d => simp only [Option.map_some, upD]; congr 1; by_cases h1 : k < n
                · rw [if_pos h1, if_pos (by omega)]
                · rw [if_neg h1, if_neg (by omega)]
/-- What built leaves, and how it stands when rates are raised. -/
def builtρ (bs : List UInt8) (p : Plt.Plant) (v : Value) (N : List Ent) : Prop := ∃ bM s cm ai ci ap cp ds ys NO, v = .agg #[.slice (some ⟨bM, 0, none⟩) p.ms.length cm, .slice ai p.items.length ci, .slice ap p.passes.length cp] ∧
  N = ⟨bM, Ce ((upDs bs 0 ds).flatMap encMD ++ s) 61, true⟩ :: NO ∧ (∀ x ∈ NO, x.own = true) ∧ ds.length = p.ms.length ∧ p.ms.length ≤ cm ∧ (∀ (i : Nat) (d : MD) (m : Plt.Mach), ds[i]? = some d → p.ms[i]? = some m → d.rate = m.rate) ∧
  ∀ n, Shw (⟨bM, Ce ((upDs bs n ds).flatMap encMD ++ s) 61, true⟩ :: NO) (fun w => PlV w ⟨(some ⟨bM, 0, none⟩, p.ms.length, cm), (ai, p.items.length, ci), (ap, p.passes.length, cp), upDs bs n ds, ys⟩ (Plt.raised bs n p))
theorem built_up {v0 v1 v2 v3 : Value} {x : Plt.Sk} {p : Plt.Plant} (bs : List UInt8) (hp : Plt.built x = p) (hm : 1 ≤ p.ms.length) (w : World) (h0 : SV w 1 encB v0 x.ms) (h1 : SV w 1 encB v1 x.shs) (h2 : SV w 1 encB v2 x.its) (h3 : SV w 1 encB v3 x.ps) :
    Calls Try.prog 10 #[.agg #[v0, v1, v2, v3]] w fun e w' => ∃ v N, e = .returned v ∧ builtρ bs p v N ∧ Rep w w' N ∧ ∀ x ∈ N, x.own = true := by
  subst hp
  refine (built_calls w h0 h1 h2 h3).mono fun e w' ⟨v, N, h1, h2, h3, h4⟩ => ⟨v, N, h1, ?_, h3, h4⟩
  obtain ⟨am, cm, ai, ci, ap, cp, ds, ys, NM, NI, NP, NX, hv, ⟨gM, gI, gP⟩, ⟨hN, oX⟩, hl, hMX, hPX⟩ := h2
  subst hN
  have hrate : ∀ (i : Nat) (d : MD) (m : Plt.Mach), ds[i]? = some d → (Plt.built x).ms[i]? = some m → d.rate = m.rate := fun i d m e1 e2 =>
    ((Shw.right (A := NM) (Shw.right (A := NI) (Shw.right (A := NP) hMX))) w w' _ [] (by simp [RemL]) h3 i d m e1 e2).rate
  obtain ⟨a, cap, e1, hc, hop⟩ := gM.open
  rw [hl.1] at e1 hc hop
  cases e1
  obtain ⟨bM, s, rfl, rfl, hs⟩ := hop (by omega)
  refine ⟨bM, s, cm, ai, ci, ap, cp, ds, ys, NI ++ (NP ++ NX), hv, by rw [upDs_zero]; rfl, fun x hx => h4 x (List.mem_cons_of_mem _ hx), hl.1, hc.1, hrate, fun n => ?_⟩
  have hlen : ((upDs bs n ds).flatMap encMD ++ s).length = cm * 5 := by
    rw [List.length_append, flat_len encMD_len, upDs_len, ← flat_len encMD_len, ← List.length_append]; exact hs
  have hM2 : OW 61 5 encMD (.slice (some ⟨bM, 0, none⟩) (Plt.raised bs n (Plt.built x)).ms.length cm) (upDs bs n ds) [⟨bM, Ce ((upDs bs n ds).flatMap encMD ++ s) 61, true⟩] := by
    rw [Plt.raised_len, ← hl.1, ← upDs_len bs n ds]
    exact .row hlen ⟨by rw [upDs_len, hl.1]; exact hc.1, by rw [upDs_len, hl.1]; exact hc.2⟩
  have hr := built_plv (p := Plt.raised bs n (Plt.built x)) hM2 gI gP ⟨by rw [upDs_len, Plt.raised_len]; exact hl.1, hl.2⟩
    (fun w0 w L L0 hr hw i d m e1 e2 => by
      rw [upDs_get] at e1
      rw [Plt.raised_get] at e2
      cases q1 : ds[i]? with
      | none => rw [q1] at e1; cases e1
      | some d0 =>
        cases q2 : (Plt.built x).ms[i]? with
        | none => rw [q2] at e2; cases e2
        | some m0 =>
          rw [q1] at e1
          rw [q2] at e2
          cases e1
          cases e2
          have hq := hMX w0 w L L0 hr hw i d0 m0 q1 q2
          unfold upD Plt.up
          by_cases hin : i < n
          · rw [if_pos hin, if_pos hin]
            exact ⟨hq.id, hq.sweeps, by dsimp only; rw [hq.rate], hq.caps, hq.shifts⟩
          · rw [if_neg hin, if_neg hin]
            exact hq) hPX
  rw [Plt.raised_len] at hr
  exact hr
theorem lists_both {va vb : Value} {xss yss : List (List Int)} (he : xss = yss) (w : World) (ha : ∃ ss, SV w 1 encS va ss ∧ SL w 1 encI ss xss) (hb : ∃ ss, SV w 1 encS vb ss ∧ SL w 1 encI ss yss) : Calls Try.prog 24 #[va, vb] w fun e w' => e = .returned (.bool true) ∧ Below w.heap.size w w' := by
  obtain ⟨ss, h1, h2⟩ := hb
  exact lists_is he w ha h1 h2
/-! ## PlantFaster -/
set_option maxHeartbeats 16000000 in
set_option maxRecDepth 100000 in
theorem faster_calls {v0 v1 v2 v3 v5 : Value} {x : Plt.Sk} {bs : List UInt8} (w : World) (h0 : SV w 1 encB v0 x.ms) (h1 : SV w 1 encB v1 x.shs) (h2 : SV w 1 encB v2 x.its) (h3 : SV w 1 encB v3 x.ps) (h5 : SV w 1 encB v5 bs) :
    Calls Try.prog 7 #[.agg #[v0, v1, v2, v3], v5] w fun e w' => e = .returned (.bool true) ∧ Below w.heap.size w w' := by
  obtain ⟨p, hp⟩ : ∃ p, Plt.built x = p := ⟨_, rfl⟩
  have hnice := nice_built x
  have hbr := Plt.built_rate x
  rw [hp] at hnice hbr
  have hbt := fun (w' : World) (L : List Ent) (hw : Rep w w' L) (ho : AO L) => built_up bs hp hnice.ms.1 w' (h0.keep hw ho) (h1.keep hw ho) (h2.keep hw ho) (h3.keep hw ho)
  have hv := Plt.valid_of hnice.valid
  have hcalm := Plt.calm_of hnice.valid
  have hval2 := Plt.raised_valid hv hbr bs p.ms.length
  have hv2 := Plt.valid_of hval2
  have hcalm2 := Plt.calm_of hval2
  have hRai := Plt.raised_of bs p.ms.length p
  have hml := hnice.ms
  have hil := hnice.items
  have hpl := hnice.passes
  have hrl0 := Plt.playF_len p
  have hrl1 : (Plt.playF (Plt.raised bs p.ms.length p)).length = p.passes.length := Plt.playF_len _
  clear h0 h1 h2 h3
  refine f_enter2 Try.func7 rfl Try.ntmps7 rfl (Rep.start w) ?_
  repeat' (first | ((first | ((with_reducible apply o_call_new (f := 10)); exact rfl) | ((with_reducible apply q_call_new (f := 10)); exact rfl; exact rfl; exact sJ_)); exact eV_; exact (fun w hw => hbt w _ hw (by exact aO_)); rintro v NB ⟨bM, s, cm, ai, ci, ap, cp, ds, ys, NO, rfl, rfl, oO, hdl, hcm, hdr, hPl⟩ <;> (try simp only [List.cons_append, List.nil_append])) | ((with_reducible first | apply o_move | apply o_assign | apply o_faddr0 | apply o_not_d); exact rfl; exact rfl) | ((with_reducible apply gdo_load); first | refine wo_load (h := ?_) | refine wo_loadAll (h := ?_) | refine wo_loadC (h := ?_) | refine wo_ldV (h := ?_) | refine wo_ldF (h := ?_)) | ((with_reducible apply o_alloc); exact rfl; intro _) | ((with_reducible apply o_box); exact rfl; exact rfl; exact rfl; intro _) | ((with_reducible apply gdo_store); first | refine wo_store1 (h := ?_) | refine wo_storeA (h := ?_)) | ((with_reducible first | apply c_seq | apply c_block | apply c_region | apply c_nil | apply c_ret | apply c_exit | apply c_skip)) | ((with_reducible first | apply e_then | apply e_then_ret | apply e_then_exit | apply e_in | apply e_in_ret | apply e_in_same)))
  rename_i b2 b5
  have hB := hPl 0
  rw [show Plt.raised bs 0 p = p from by unfold Plt.raised; congr 1; apply List.ext_getElem?; intro k; rw [List.getElem?_mapIdx]; cases p.ms[k]? <;> simp [Plt.up]] at hB
  repeat' (first | ((first | ((with_reducible apply o_call_new (f := 11)); exact rfl) | ((with_reducible apply q_call_new (f := 11)); exact rfl; exact rfl; exact sJ_)); exact eV_; exact (fun w hw => play_calls31 hcalm w (hB _ _ _ _ (by exact rL_) hw)); rintro v NR ⟨ar, cr, rds, rfl, ⟨hR, hrl⟩, oR⟩ <;> (try simp only [List.cons_append, List.nil_append])) | ((with_reducible first | apply o_move | apply o_assign | apply o_faddr0 | apply o_not_d); exact rfl; exact rfl) | ((with_reducible apply gdo_load); first | refine wo_load (h := ?_) | refine wo_loadAll (h := ?_) | refine wo_loadC (h := ?_) | refine wo_ldV (h := ?_) | refine wo_ldF (h := ?_)) | ((with_reducible first | apply o_lss | apply o_gtr | apply o_neq | apply o_extract); exact rfl; exact rfl; exact rfl) | ((with_reducible apply o_len); infer_instance; exact rfl; exact rfl) | ((with_reducible first | apply c_seq | apply c_block | apply c_region | apply c_nil | apply c_ret | apply c_exit | apply c_skip)) | ((with_reducible first | apply e_then | apply e_then_ret | apply e_then_exit | apply e_in | apply e_in_ret | apply e_in_same)))
  apply c_loop (σ := Nat) (Fs := fun i => [(24, .int .i64 i), (23, .int .i64 p.ms.length), (22, .slice (some ⟨bM, 0, none⟩) p.ms.length cm), (7, .int .i64 0), (6, .slice ar (Plt.playF p).length cr), (5, ptr b5), (1, v5)])
    (Ls := fun i => NR ++ (⟨b5, Ce [.slice (some ⟨bM, 0, none⟩) p.ms.length cm, .slice ai p.items.length ci, .slice ap p.passes.length cp] 29, true⟩ :: ⟨bM, Ce ((upDs bs i ds).flatMap encMD ++ s) 61, true⟩ :: (NO ++ []))) (I := fun i => i ≤ p.ms.length) (μ := fun i => p.ms.length - i) (s0 := 0)
  · exact Nat.zero_le _
  · exact fS_
  · exact hS_
  intro i hi
  have hi : i ≤ p.ms.length := hi
  by_cases hlt : i < p.ms.length
  · obtain ⟨⟨did, dsw, rt, dca, dsh⟩, hdi⟩ : ∃ d, ds[i]? = some d := ⟨_, List.getElem?_eq_getElem (by omega)⟩
    obtain ⟨m, hmi⟩ : ∃ m, p.ms[i]? = some m := ⟨_, List.getElem?_eq_getElem hlt⟩
    have hrt := hdr i _ m hdi hmi
    have hmr := (hv.right m (List.mem_of_getElem? hmi)).2.1
    dsimp only at hrt
    have hx := upDs_at (bs := bs) hdi
    have q2 : ((upDs bs i ds).flatMap encMD ++ s).toArray[0 + i * 5 + 2]? = some (.int .i64 rt) := (Pat.flat encMD_len (upDs bs i ds) s).get hx 2 _ rfl
    obtain ⟨nbi, hnb⟩ : ∃ z, Plt.nb bs i = z := ⟨_, rfl⟩
    have hnbd := Plt.nb_bd bs i
    rw [hnb] at hnbd
    obtain ⟨rv, hrv⟩ : ∃ rv, nbi % 16 = rv := ⟨_, rfl⟩
    obtain ⟨nr, hnr⟩ : ∃ nr, rt + rv = nr := ⟨_, rfl⟩
    have hset := upDs_set (bs := bs) (nr := nr) hdi (by rw [hnb, hrv]; exact hnr)
    dsimp only at hset
    as_aux_lemma =>
      repeat' (first | ((with_reducible apply c_cond_t); exact rfl; exact decide_eq_true (by omega)) | ((with_reducible apply c_regionD (id := 6) [] 11); kernel_rfl; kernel_rfl; simp only [List.take_succ_cons, List.take_zero, List.drop_succ_cons, List.drop_zero]) | ((first | ((with_reducible apply o_call_pure (f := 23)); exact rfl) | ((with_reducible apply q_call_pure (f := 23)); exact rfl; kernel_rfl; exact rfl; exact sJ_)); exact eV_; exact (fun w hw => number_is (i := i) rfl (by omega) hnb w (h5.keep hw (by exact aO_)))) | ((with_reducible first | apply q_remE (v := rv) | apply o_remE (v := rv)); exact rfl; exact rfl; exact hrv; omega; exact rfl) | ((with_reducible first | apply q_addE (v := nr) | apply o_addE (v := nr)); exact rfl; exact rfl; exact hnr; omega; exact rfl) | (apply o_storeT (enc := encMD) (k := 5) (m := i) (o := 2) (xs := (upDs bs i ds)) (⟨did, dsw, nr, dca, dsh⟩) (hset); infer_instance; exact rfl; exact rfl; exact aT_; exact (hx); exact encMD_len; omega; exact rfl; exact rfl; (intro u hu; simp at hu; first | (subst hu; rfl) | (rcases hu with rfl | rfl <;> rfl) | (rcases hu with rfl | rfl | rfl <;> rfl) | (rcases hu with rfl | rfl | rfl | rfl <;> rfl)); (first | decide | exact Nat.le_refl _ | (simp only [List.length_cons, List.length_nil]; decide)); exact rfl; exact uP_) | ((with_reducible first | apply o_move | apply o_assign | apply o_faddr0 | apply o_not_d); exact rfl; exact rfl) | ((with_reducible first | apply o_faddr); exact rfl; exact rfl) | ((with_reducible first | apply o_lss | apply o_gtr | apply o_neq | apply o_extract); exact rfl; exact rfl; exact rfl) | ((with_reducible apply o_add); exact rfl; exact rfl; exact rfl; (constructor <;> omega)) | ((with_reducible apply o_idx); infer_instance; infer_instance; exact rfl; exact rfl; (first | exact rfl | omega); exact rfl; (first | assumption | omega | decide)) | ((with_reducible first | apply c_seq | apply c_block | apply c_region | apply c_nil | apply c_ret | apply c_exit | apply c_skip)) | ((with_reducible first | apply e_then | apply e_then_ret | apply e_then_exit | apply e_in | apply e_in_ret | apply e_in_same)) | ((with_reducible apply q_nil); try simp only [ents, List.cons_append, List.nil_append]) | ((with_reducible first | apply q_move | apply q_assign | apply q_faddr0); exact rfl; exact rfl) | ((with_reducible first | apply q_faddr); exact rfl; exact rfl) | ((with_reducible apply gdq_load); first | refine wq_load (h := ?_) | refine wq_loadAll (h := ?_) | refine wq_loadC (h := ?_) | refine wq_ldV (h := ?_) | refine wq_ldF (h := ?_)) | ((with_reducible apply q_idx); infer_instance; infer_instance; exact rfl; exact rfl; (first | exact rfl | omega); exact rfl; (first | assumption | omega | decide)))
      refine l_again (i + 1) (show i + 1 ≤ p.ms.length by omega) (show p.ms.length - (i + 1) < p.ms.length - i by omega) ?_ ?_
      · exact fS_
      · (try dsimp only); rw [← hset]; exact hS_
  obtain rfl : i = p.ms.length := by omega
  have hB2 := hPl p.ms.length
  repeat' (first | ((with_reducible apply c_cond_f); exact rfl; exact decide_eq_false (by omega)) | ((with_reducible apply o_pick_f); exact rfl; exact decide_eq_false (by omega); exact rfl; exact rfl) | ((with_reducible apply g_run); exact rfl; exact decide_eq_false (by omega)) | ((first | ((with_reducible apply o_call_new (f := 11)); exact rfl) | ((with_reducible apply q_call_new (f := 11)); exact rfl; exact rfl; exact sJ_)); exact eV_; exact (fun w hw => play_calls31 hcalm2 w (hB2 _ _ _ _ (by exact rL_) hw)); rintro v NR2 ⟨ar2, cr2, rds2, rfl, ⟨hR2, hrl2⟩, oR2⟩ <;> (try simp only [List.cons_append, List.nil_append])) | ((with_reducible first | apply o_move | apply o_assign | apply o_faddr0 | apply o_not_d); exact rfl; exact rfl) | ((with_reducible apply gdo_load); first | refine wo_load (h := ?_) | refine wo_loadAll (h := ?_) | refine wo_loadC (h := ?_) | refine wo_ldV (h := ?_) | refine wo_ldF (h := ?_)) | ((with_reducible first | apply o_lss | apply o_gtr | apply o_neq | apply o_extract); exact rfl; exact rfl; exact rfl) | ((with_reducible apply o_add); exact rfl; exact rfl; exact rfl; (constructor <;> omega)) | ((with_reducible apply o_len); infer_instance; exact rfl; exact rfl) | ((with_reducible first | apply c_seq | apply c_block | apply c_region | apply c_nil | apply c_ret | apply c_exit | apply c_skip)) | ((with_reducible first | apply e_then | apply e_then_ret | apply e_then_exit | apply e_in | apply e_in_ret | apply e_in_same)))
  apply c_loop (σ := Nat) (Fs := fun k => [(67, .int .i64 k), (66, .int .i64 (Plt.playF p).length), (65, .slice ar (Plt.playF p).length cr), (9, .slice ar2 (Plt.playF (Plt.raised bs p.ms.length p)).length cr2), (6, .slice ar (Plt.playF p).length cr), (5, ptr b5)])
    (Ls := fun k => NR2 ++ (NR ++ (⟨b5, Ce [.slice (some ⟨bM, 0, none⟩) p.ms.length cm, .slice ai p.items.length ci, .slice ap p.passes.length cp] 29, true⟩ :: ⟨bM, Ce ((upDs bs p.ms.length ds).flatMap encMD ++ s) 61, true⟩ :: (NO ++ [])))) (I := fun k => k ≤ (Plt.playF p).length ∧ ∀ (j : Nat) (r : Plt.Run), j < k → (Plt.playF p)[j]? = some r → 0 ≤ r.fin) (μ := fun k => (Plt.playF p).length - k) (s0 := 0)
  · exact ⟨Nat.zero_le _, fun j r h => absurd h (Nat.not_lt_zero j)⟩
  · exact fS_
  · exact hS_
  rintro k ⟨hk, hall⟩
  by_cases hlt2 : k < (Plt.playF p).length
  · obtain ⟨r, hr⟩ : ∃ r, (Plt.playF p)[k]? = some r := ⟨_, List.getElem?_eq_getElem hlt2⟩
    refine st_know (fun w' hw' => RunsV.at (hR _ _ _ _ (by exact rL_) hw') hr) ?_; rintro ⟨br, offr, x1, k1, x2, k2, x3, n3, k3, x4, n4, k4, x5, k5, x6, k6, x7, n7, k7, rfl, hd, hn3, g0⟩
    by_cases hf : r.fin < 0
    · as_aux_lemma =>
        repeat' (first | ((with_reducible apply c_cond_t); exact rfl; exact decide_eq_true (by omega)) | ((with_reducible apply o_ldPV (l := [.int .i64 r.pass, .int .i64 r.start, .int .i64 r.fin, .slice x1 r.items.length k1, .slice x2 r.slices.length k2, .slice x3 n3 k3, .slice x4 n4 k4, .slice x5 r.res.over.length k5, .slice x6 r.res.rej.length k6, .slice x7 n7 k7])); infer_instance; infer_instance; exact rfl; (intro w' hw' j' v' hj'; exact SV.cell (hR _ _ _ _ (by exact rL_) hw').1 hd (g0 _ _ hj')); exact rfl; exact rfl) | ((first | ((with_reducible apply o_call_pure (f := 16)); exact rfl) | ((with_reducible apply q_call_pure (f := 16)); exact rfl; kernel_rfl; exact rfl; exact sJ_)); exact eV_; exact (fun w _ => awake_calls w)) | ((with_reducible first | apply o_move | apply o_assign | apply o_faddr0 | apply o_not_d); exact rfl; exact rfl) | ((with_reducible apply gdo_load); first | refine wo_load (h := ?_) | refine wo_loadAll (h := ?_) | refine wo_loadC (h := ?_) | refine wo_ldV (h := ?_) | refine wo_ldF (h := ?_)) | ((with_reducible first | apply o_lss | apply o_gtr | apply o_neq | apply o_extract); exact rfl; exact rfl; exact rfl) | ((with_reducible apply o_alloc); exact rfl; intro _) | ((with_reducible apply gdo_store); first | refine wo_store1 (h := ?_) | refine wo_storeA (h := ?_)) | ((with_reducible apply o_idx); infer_instance; infer_instance; exact rfl; exact rfl; (first | exact rfl | omega); exact rfl; (first | assumption | omega | decide)) | ((with_reducible first | apply c_seq | apply c_block | apply c_region | apply c_nil | apply c_ret | apply c_exit | apply c_skip)) | ((with_reducible first | apply e_then | apply e_then_ret | apply e_then_exit | apply e_in | apply e_in_ret | apply e_in_same)))
        apply r_body; apply res1 Try.results7; exact rV_; intro w' hw
        exact ⟨rfl, hw.below (show AO _ from by exact aO_)⟩
    · as_aux_lemma =>
        repeat' (first | ((with_reducible apply c_cond_t); exact rfl; exact decide_eq_true (by omega)) | ((with_reducible apply c_cond_f); exact rfl; exact decide_eq_false (by omega)) | ((with_reducible apply o_ldPV (l := [.int .i64 r.pass, .int .i64 r.start, .int .i64 r.fin, .slice x1 r.items.length k1, .slice x2 r.slices.length k2, .slice x3 n3 k3, .slice x4 n4 k4, .slice x5 r.res.over.length k5, .slice x6 r.res.rej.length k6, .slice x7 n7 k7])); infer_instance; infer_instance; exact rfl; (intro w' hw' j' v' hj'; exact SV.cell (hR _ _ _ _ (by exact rL_) hw').1 hd (g0 _ _ hj')); exact rfl; exact rfl) | ((with_reducible first | apply o_move | apply o_assign | apply o_faddr0 | apply o_not_d); exact rfl; exact rfl) | ((with_reducible apply gdo_load); first | refine wo_load (h := ?_) | refine wo_loadAll (h := ?_) | refine wo_loadC (h := ?_) | refine wo_ldV (h := ?_) | refine wo_ldF (h := ?_)) | ((with_reducible first | apply o_lss | apply o_gtr | apply o_neq | apply o_extract); exact rfl; exact rfl; exact rfl) | ((with_reducible apply o_add); exact rfl; exact rfl; exact rfl; (constructor <;> omega)) | ((with_reducible apply o_alloc); exact rfl; intro _) | ((with_reducible apply gdo_store); first | refine wo_store1 (h := ?_) | refine wo_storeA (h := ?_)) | ((with_reducible apply o_idx); infer_instance; infer_instance; exact rfl; exact rfl; (first | exact rfl | omega); exact rfl; (first | assumption | omega | decide)) | ((with_reducible first | apply c_seq | apply c_block | apply c_region | apply c_nil | apply c_ret | apply c_exit | apply c_skip)) | ((with_reducible first | apply e_then | apply e_then_ret | apply e_then_exit | apply e_in | apply e_in_ret | apply e_in_same)))
        refine l_again (k + 1) ⟨show k + 1 ≤ (Plt.playF p).length by omega, fun j q hj hq => ?_⟩ (show (Plt.playF p).length - (k + 1) < (Plt.playF p).length - k by omega) ?_ ?_
        · rcases Nat.lt_succ_iff_lt_or_eq.1 hj with h | rfl
          · exact hall j q h hq
          · rw [hr] at hq
            cases hq
            omega
        · exact fS_
        · exact hS_
  obtain rfl : k = (Plt.playF p).length := by omega
  have hall2 : ∀ (j : Nat) (r : Plt.Run), (Plt.playF p)[j]? = some r → 0 ≤ r.fin := fun j r h => hall j r (List.getElem?_eq_some_iff.1 h).1 h
  repeat' (first | ((with_reducible apply c_cond_f); exact rfl; exact decide_eq_false (by omega)) | ((with_reducible first | apply o_move | apply o_assign | apply o_faddr0 | apply o_not_d); exact rfl; exact rfl) | ((with_reducible first | apply o_lss | apply o_gtr | apply o_neq | apply o_extract); exact rfl; exact rfl; exact rfl) | ((with_reducible apply o_len); infer_instance; exact rfl; exact rfl) | ((with_reducible first | apply c_seq | apply c_block | apply c_region | apply c_nil | apply c_ret | apply c_exit | apply c_skip)) | ((with_reducible first | apply e_then | apply e_then_ret | apply e_then_exit | apply e_in | apply e_in_ret | apply e_in_same)))
  apply c_loop (σ := Nat) (Fs := fun k => [(78, .int .i64 k), (77, .int .i64 (Plt.playF p).length), (9, .slice ar2 (Plt.playF (Plt.raised bs p.ms.length p)).length cr2), (6, .slice ar (Plt.playF p).length cr), (5, ptr b5)])
    (Ls := fun k => NR2 ++ (NR ++ (⟨b5, Ce [.slice (some ⟨bM, 0, none⟩) p.ms.length cm, .slice ai p.items.length ci, .slice ap p.passes.length cp] 29, true⟩ :: ⟨bM, Ce ((upDs bs p.ms.length ds).flatMap encMD ++ s) 61, true⟩ :: (NO ++ [])))) (I := fun k => k ≤ (Plt.playF p).length) (μ := fun k => (Plt.playF p).length - k) (s0 := 0)
  · exact Nat.zero_le _
  · exact fS_
  · exact hS_
  intro k hk
  have hk : k ≤ (Plt.playF p).length := hk
  by_cases hlt2 : k < (Plt.playF p).length
  · obtain ⟨r, hr⟩ : ∃ r, (Plt.playF p)[k]? = some r := ⟨_, List.getElem?_eq_getElem hlt2⟩
    obtain ⟨r', hr'⟩ : ∃ r', (Plt.playF (Plt.raised bs p.ms.length p))[k]? = some r' := ⟨_, List.getElem?_eq_getElem (by omega)⟩
    obtain ⟨hf1, hf3, hf4⟩ := Plt.fast_at hv hv2 hRai hall2 hr hr'
    have hf3 := hf3.symm
    have hf4 := hf4.symm
    have hf0 := (Plt.fin_bd hv k).2
    rw [Plt.finF_at hr] at hf0
    refine st_know (fun w' hw' => RunsV.at (hR _ _ _ _ (by exact rL_) hw') hr) ?_; rintro ⟨br, offr, x1, k1, x2, k2, x3, n3, k3, x4, n4, k4, x5, k5, x6, k6, x7, n7, k7, rfl, hd, hn3, g0⟩
    refine st_know (fun w' hw' => RunsV.at (hR2 _ _ _ _ (by exact rL_) hw') hr') ?_
    rintro ⟨br2, offr2, y1, u1, y2, u2, y3, o3, u3, y4, o4, u4, y5, u5, y6, u6, y7, o7, u7, rfl, hd2, hn4, g2⟩
    as_aux_lemma =>
      repeat' (first | ((with_reducible apply c_cond_t); exact rfl; exact decide_eq_true (by omega)) | ((with_reducible apply q_ldP); infer_instance; exact rfl; exact rfl; exact sJ_; (intro w' hw'; first | exact SV.cell (hR2 _ _ _ _ (by exact rL_) hw').1 hd2 (g2 2 _ rfl) | exact SV.cell (hR2 _ _ _ _ (by exact rL_) hw').1 hd2 (g2 3 _ rfl) | exact SV.cell (hR2 _ _ _ _ (by exact rL_) hw').1 hd2 (g2 5 _ rfl) | exact SV.cell (hR _ _ _ _ (by exact rL_) hw').1 hd (g0 2 _ rfl) | exact SV.cell (hR _ _ _ _ (by exact rL_) hw').1 hd (g0 3 _ rfl) | exact SV.cell (hR _ _ _ _ (by exact rL_) hw').1 hd (g0 5 _ rfl)); exact rfl) | ((first | ((with_reducible apply o_call_pure (f := 20)); exact rfl) | ((with_reducible apply q_call_pure (f := 20)); exact rfl; kernel_rfl; exact rfl; exact sJ_)); exact eV_; exact (fun w hw => same_yes hf3 w ((hR _ _ _ _ (by exact rL_) hw).2.2 k _ _ hd hr).items ((hR2 _ _ _ _ (by exact rL_) hw).2.2 k _ _ hd2 hr').items)) | ((first | ((with_reducible apply o_call_pure (f := 24)); exact rfl) | ((with_reducible apply q_call_pure (f := 24)); exact rfl; kernel_rfl; exact rfl; exact sJ_)); exact eV_; exact (fun w hw => lists_both hf4 w (((hR _ _ _ _ (by exact rL_) hw).2.2 k _ _ hd hr).stk' rfl) (((hR2 _ _ _ _ (by exact rL_) hw).2.2 k _ _ hd2 hr').stk' rfl))) | ((with_reducible first | apply o_move | apply o_assign | apply o_faddr0 | apply o_not_d); exact rfl; exact rfl) | ((with_reducible first | apply o_lss | apply o_gtr | apply o_neq | apply o_extract); exact rfl; exact rfl; exact rfl) | ((with_reducible apply o_add); exact rfl; exact rfl; exact rfl; (constructor <;> omega)) | ((with_reducible first | apply c_seq | apply c_block | apply c_region | apply c_nil | apply c_ret | apply c_exit | apply c_skip)) | ((with_reducible apply c_cond_f); exact rfl; exact fF_) | ((with_reducible first | apply e_then | apply e_then_ret | apply e_then_exit | apply e_in | apply e_in_ret | apply e_in_same)) | ((with_reducible apply c_regionD0 (id := 20) []); kernel_rfl; kernel_rfl) | ((with_reducible apply q_nil); try simp only [ents, List.cons_append, List.nil_append]) | ((with_reducible first | apply q_move | apply q_assign | apply q_faddr0); exact rfl; exact rfl) | ((with_reducible first | apply q_faddr); exact rfl; exact rfl) | ((with_reducible first | apply q_lss | apply q_gtr | apply q_neq | apply q_extract); exact rfl; exact rfl; exact rfl) | ((with_reducible apply q_not); exact rfl; exact rfl) | ((with_reducible apply q_pick_f); exact rfl; exact fF_; exact rfl; exact rfl) | ((with_reducible apply q_idx); infer_instance; infer_instance; exact rfl; exact rfl; (first | exact rfl | omega); exact rfl; (first | assumption | omega | decide)) | ((with_reducible first | apply h_run); exact rfl; exact gG_))
      refine l_again (k + 1) (show k + 1 ≤ (Plt.playF p).length by omega) (show (Plt.playF p).length - (k + 1) < (Plt.playF p).length - k by omega) ?_ ?_
      · exact fS_
      · exact hS_
  obtain rfl : k = (Plt.playF p).length := by omega
  repeat' (first | ((with_reducible apply c_cond_f); exact rfl; exact decide_eq_false (by omega)) | ((first | ((with_reducible apply o_call_pure (f := 16)); exact rfl) | ((with_reducible apply q_call_pure (f := 16)); exact rfl; kernel_rfl; exact rfl; exact sJ_)); exact eV_; exact (fun w _ => awake_calls w)) | ((with_reducible first | apply o_move | apply o_assign | apply o_faddr0 | apply o_not_d); exact rfl; exact rfl) | ((with_reducible first | apply o_lss | apply o_gtr | apply o_neq | apply o_extract); exact rfl; exact rfl; exact rfl) | ((with_reducible first | apply c_seq | apply c_block | apply c_region | apply c_nil | apply c_ret | apply c_exit | apply c_skip)) | ((with_reducible first | apply e_then | apply e_then_ret | apply e_then_exit | apply e_in | apply e_in_ret | apply e_in_same)))
  apply r_body; apply res1 Try.results7; exact rV_; intro w' hw
  exact ⟨rfl, hw.below (show AO _ from by exact aO_)⟩
end Go.Proofs.Ytkhaemjoekfhiaa
namespace Go.Proofs.Ytkhaemjoekfhiaa
open Go Go.ChangeShapes Go.WideShapes Go.ChangeAt Go.RowKit Go.Sx
theorem own : ownKnob Try.prog.godebug = none := by kernel_rfl
theorem laidOut : laidOutB Try.prog = true := by kernel_rfl
theorem cellsB : Try.prog.cellsOf 5 = 1 := by kernel_rfl
section
variable {H : Type} {enc : TypeId × Value → H} {w : World}
set_option maxRecDepth 100000 in
theorem rd_byte {cs : List Value} (h : Rd enc Try.prog w 5 cs) : ∃ x : UInt8, cs = encB x ∧ True := by
  obtain ⟨n, rfl, hw⟩ := Rd.int Try.underlying5 h
  simp only [Lit.wf, Bool.and_eq_true, decide_eq_true_eq] at hw
  have h0 : 0 ≤ n := hw.1
  have h1 : n ≤ 255 := hw.2
  refine ⟨UInt8.ofNat n.toNat, ?_, trivial⟩
  unfold encB
  have : (UInt8.ofNat n.toNat).toNat = n.toNat := by
    rw [UInt8.toNat_ofNat']
    omega
  rw [this]
  congr 2
  omega
set_option maxRecDepth 100000 in
theorem arg_bytes {r : Reach} {b0 : Nat} {v : Value} {d : DataW H} {ps : List MemPlace} (hv : Value.okWide Try.prog w r b0 22 v) (h : DataW.Trod enc Try.prog w 0 (fun _ => true) true 22 v d ps) : ∃ l : List UInt8, SV w 1 encB v l := by
  obtain ⟨a, len, cap, rfl⟩ := okWide_slice Try.underlying22 hv
  obtain ⟨v', xs, h1, h2, _⟩ := rd_slice (good := fun _ => True) Try.underlying22 cellsB (by decide) encB_len (fun cs h => rd_byte h) (Rd.of h)
  simp only [Value.cells] at h1
  obtain rfl : Value.slice a len cap = v' := by simpa using h1
  exact ⟨xs, h2⟩
theorem cellsTSK : Try.prog.cellsOf 24 = 4 := by kernel_rfl
theorem cellsTBYTES : Try.prog.cellsOf 22 = 1 := by kernel_rfl
theorem list4 {α : Type} {l : List α} (h : l.length = 4) : ∃ a b c d, l = [a, b, c, d] := by
  match l, h with
  | [a, b, c, d], _ => exact ⟨a, b, c, d, rfl⟩
set_option maxRecDepth 100000 in
theorem arg_sketch {r : Reach} {b0 : Nat} {v : Value} {d : DataW H} {ps : List MemPlace} (hv : Value.okWide Try.prog w r b0 24 v) (h : DataW.Trod enc Try.prog w 0 (fun _ => true) true 24 v d ps) :
    ∃ v0 v1 v2 v3, ∃ x : Plt.Sk, v = .agg #[v0, v1, v2, v3] ∧ SV w 1 encB v0 x.ms ∧ SV w 1 encB v1 x.shs ∧ SV w 1 encB v2 x.its ∧ SV w 1 encB v3 x.ps := by
  obtain ⟨cs, rfl, _⟩ := okWide_struct Try.underlying24 hv
  obtain ⟨hl, hf⟩ := (Rd.of h).struct Try.underlying24
  rw [cellsTSK] at hl
  simp only [Value.cells] at hl hf
  obtain ⟨a, b, c, e, hab⟩ := list4 hl
  rw [hab] at hf
  obtain ⟨a', xa, ha, wa, _⟩ := rd_slice (good := fun _ => True) Try.underlying22 cellsB (by decide) encB_len (fun cs h => rd_byte h) (hf 0 _ rfl)
  obtain ⟨b', xb, hb, wb, _⟩ := rd_slice (good := fun _ => True) Try.underlying22 cellsB (by decide) encB_len (fun cs h => rd_byte h) (hf 1 _ rfl)
  obtain ⟨c', xc, hc, wc, _⟩ := rd_slice (good := fun _ => True) Try.underlying22 cellsB (by decide) encB_len (fun cs h => rd_byte h) (hf 2 _ rfl)
  obtain ⟨e', xe, he, we, _⟩ := rd_slice (good := fun _ => True) Try.underlying22 cellsB (by decide) encB_len (fun cs h => rd_byte h) (hf 3 _ rfl)
  obtain rfl : a = a' := by simpa [cellsTBYTES] using ha
  obtain rfl : b = b' := by simpa [cellsTBYTES] using hb
  obtain rfl : c = c' := by simpa [cellsTBYTES] using hc
  obtain rfl : e = e' := by simpa [cellsTBYTES] using he
  refine ⟨a, b, c, e, ⟨xa, xb, xc, xe⟩, ?_, wa, wb, wc, we⟩
  rw [show cs = #[a, b, c, e] from by rw [← Array.toArray_toList (xs := cs), hab]]
end
end Go.Proofs.Ytkhaemjoekfhiaa
namespace Go.Proofs.Ytkhaemjoekfhiaa
open Go Go.ChangeShapes Go.WideShapes Go.ChangeAt Go.RowKit Go.Sx
set_option maxRecDepth 100000 in
theorem plantFaster_lifted (os : Os) (started : os.Started) (H : Type) (enc : TypeId × Value → H) :
    ReturnsInHanded {} Try.checked os 7 .any (Rows.plantFasterSpec.pre6 enc Try.prog Try.f7 Rows.plantFasterRow.domain false) (Rows.plantFasterSpec.post enc Try.prog Try.f7 false true false false) := by
  refine returnsInHanded_of_change (C := Try.checked) own started (by kernel_rfl) Try.func7
    (ChangeSpec.witness6 (enc := enc) (C := Try.checked) false ⟨#[], #[.agg #[.slice none 0 0, .slice none 0 0, .slice none 0 0, .slice none 0 0], .slice none 0 0], []⟩ 8 (by kernel_rfl) (by kernel_rfl) (by kernel_rfl) (by kernel_rfl)) ?_
  intro W base args ds gs before hval0 hW hcnd _
  have hval : ∀ (j : Nat) t v, Try.f7.params[j]? = some t → args[j]? = some v → Value.okWide Try.prog W .any base t v := hval0
  have hW' := hW
  obtain ⟨p, q, hA0, hV, rfl, hfz, hnd⟩ := hW
  have hA : DataW.TrodAll enc Try.prog W 0 (fun _ => true) true Try.f7.params.toList args.toList ds p := hA0
  rw [Try.params7] at hA hval
  obtain ⟨v0, vs0, d0, ds0, p0, q0, hargs, rfl, rfl, h0, r0⟩ := trodAll_cons hA
  obtain ⟨v1, vs1, d1, ds1, p1, q1, rfl, rfl, rfl, h1, r1⟩ := trodAll_cons r0
  obtain ⟨rfl, rfl, rfl⟩ := trodAll_nil r1
  obtain rfl : args = #[v0, v1] := by cases args; simp_all
  obtain ⟨rfl, rfl⟩ := trodVars_none hV
  have lt0 := Rd.lt h0
  have hv0 := hval 0 24 v0 rfl rfl
  have lt1 := Rd.lt h1
  have hv1 := hval 1 22 v1 rfl rfl
  clear hA0 hval0
  obtain ⟨c0, c1, c2, c3, x, rfl, s0, s1, s2, s3⟩ := arg_sketch hv0 h0
  obtain ⟨bs, s5⟩ := arg_bytes hv1 h1
  refine (faster_calls W s0 s1 s2 s3 s5).mono fun e W' ⟨he, bel⟩ => ?_
  subst he
  exact ⟨_, rfl, _, _, _, [], _, [], hW', trodAll_mk1 (shut_bool Try.underlying4 _), (trodAll_cons_mk (Below.trod laidOut (by kernel_rfl) (of_decide_eq_true (by kernel_rfl)) h0 bel lt0) (trodAll_cons_mk (Below.trod laidOut (by kernel_rfl) (of_decide_eq_true (by kernel_rfl)) h1 bel lt1) trodAll_mk0)), rfl, bel.frame _, fun h => by cases h⟩
theorem plantFaster_proved : Rows.PlantFasterSaid :=
  OpenClaim.holds_of_wide 7 Try.f7 rfl rfl rfl rfl rfl rfl rfl ⟨rfl, rfl, rfl, rfl, rfl⟩ rfl rfl rfl rfl rfl (by kernel_rfl) Try.func7 (by kernel_rfl)
    (of_decide_eq_true (by kernel_rfl)) (by unfold Func.isWrapper; first | (rw [if_pos (by decide +kernel)]; kernel_rfl) | (rw [if_neg (by decide +kernel)]; exact ⟨rfl, rfl⟩))
    (fun os started H enc _ => plantFaster_lifted os started H enc)
end Go.Proofs.Ytkhaemjoekfhiaa
