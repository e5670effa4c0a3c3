/- A part of the proofs of this seat: a small logic of walks, plain laws, and what some of the program's functions compute, shown by walks through their code. Conditions: the hypotheses that each theorem names. -/
import Derived.Test.YtkhaemjoekfhiaaZPTimes3
import Derived.Test.YtkhaemjoekfhiaaZPTimes10
import Derived.Test.YtkhaemjoekfhiaaZPTimes9
set_option linter.unusedSimpArgs false
set_option linter.unusedVariables false
set_option linter.unusedSectionVars false
namespace Go.Sx.Plt
open Go.Proofs.Ytkhaemjoekfhiaa (mslF_keys psF tkF psF_snoc tkF_snoc)
theorem srcs_of {ps : List (Int × Int)} : ∀ {l tk : List (Int × Int)}, l.Nodup → (∀ s ∈ l, s ∉ tk ∧ srcOk ps s) → srcsOk ps tk l
  | [], _, _, _ => trivial
  | a :: r, tk, hn, h => by
    rw [List.nodup_cons] at hn
    obtain ⟨h1, h2⟩ := h a List.mem_cons_self
    refine ⟨⟨h2, h1⟩, srcs_of hn.2 fun s hs => ⟨fun hm => ?_, (h s (List.mem_cons_of_mem _ hs)).2⟩⟩
    rcases List.mem_append.1 hm with hm | hm
    · exact (h s (List.mem_cons_of_mem _ hs)).1 hm
    · simp at hm; subst hm; exact hn.1 hs
theorem rows_of {n : Int} : ∀ {l : List Row} {met : List Int}, (l.map Row.stop).Nodup → (∀ e ∈ l, e.stop ∉ met ∧ 0 ≤ e.st ∧ e.st < n) → rowsOk n met l
  | [], _, _, _ => trivial
  | a :: r, met, hn, h => by
    rw [List.map_cons, List.nodup_cons] at hn
    refine ⟨h a List.mem_cons_self, rows_of hn.2 fun s hs => ⟨fun hm => ?_, (h s (List.mem_cons_of_mem _ hs)).2⟩⟩
    rcases List.mem_append.1 hm with hm | hm
    · exact (h s (List.mem_cons_of_mem _ hs)).1 hm
    · simp at hm; exact hn.1 (List.mem_map.2 ⟨s, hs, hm⟩)
theorem bPick_perm (n : Nat) : ∀ (l : List (Int × Int)) (k : Nat) (a b : List (Int × Int)), ((bPick n k a b l).1 ++ (bPick n k a b l).2).Perm (a ++ b ++ l)
  | [], k, a, b => by simp [bPick]
  | s :: r, k, a, b => by
    rw [bPick]
    split
    · refine (bPick_perm n r (k + 1) _ _).trans ?_
      rw [List.append_assoc a [s], List.append_assoc a b, List.append_assoc a]
      refine List.Perm.append_left a ?_
      rw [List.singleton_append, List.cons_append]
      exact List.perm_middle.symm
    · refine (bPick_perm n r (k + 1) _ _).trans ?_
      rw [List.append_assoc, List.append_assoc, List.append_assoc, List.singleton_append]
theorem bTab_mem {n c m : Nat} {e : Row} (h : e ∈ bTab n c m) : ∃ s, s < m ∧ s ≠ n % 16 ∧ e = ⟨s, (((n + s) % c : Nat) : Int)⟩ := by
  obtain ⟨s, hs, rfl⟩ := List.mem_map.1 h
  rw [List.mem_filter] at hs
  exact ⟨s, List.mem_range.1 hs.1, by simpa using hs.2, rfl⟩
theorem bTab_len (n c m : Nat) : (bTab n c m).length ≤ m := by
  unfold bTab
  rw [List.length_map]
  exact Nat.le_trans (List.length_filter_le _ _) (by simp)
theorem bUn_len (its : List Item) (n i m : Nat) : (bUn its n i m).length ≤ m := by
  unfold bUn
  rw [List.length_map]
  exact Nat.le_trans (List.length_filter_le _ _) (by simp)
theorem bTab_nodup (n c m : Nat) : ((bTab n c m).map Row.stop).Nodup := by
  unfold bTab
  rw [List.map_map]
  refine List.Pairwise.map _ (R := fun a b => a ≠ b) (fun a b hab e => hab ?_) (List.Pairwise.filter _ List.nodup_range)
  simp only [Function.comp] at e
  omega
/-- What is true of the first i passes, and of what they leave. -/
structure BI (ms : List Mach) (its : List Item) (P : List UInt8) (i : Nat) : Prop where
  nd : ((bAt ms its P i).1 ++ tkF (bAt ms its P i).2).Nodup
  src : ∀ s ∈ (bAt ms its P i).1 ++ tkF (bAt ms its P i).2, srcOk (psF (mslF ms) (bAt ms its P i).2) s ∧ (s.1 = 0 → s.2 ≤ min i 3)
  ids : ∀ (j : Nat) (y : Pass), (bAt ms its P i).2[j]? = some y → y.id = 20 - j
  pok : ∀ (j : Nat) (y : Pass), (bAt ms its P i).2[j]? = some y → passOk (mslF ms) (psF (mslF ms) ((bAt ms its P i).2.take j)) (tkF ((bAt ms its P i).2.take j)) y
theorem key_ids {msl : List (Int × Int)} {l : List Pass} {i : Nat} (hl : l.length = i) (hids : ∀ (j : Nat) (y : Pass), l[j]? = some y → y.id = 20 - j) {id n : Int} (h : asF id (psF msl l) = some n) : ∃ j : Nat, j < i ∧ id = 20 - j := by
  obtain ⟨j, hj⟩ := asF_some h
  rw [psF, List.getElem?_map] at hj
  cases hy : l[j]? with
  | none => rw [hy] at hj; cases hj
  | some y =>
    rw [hy] at hj
    simp only [Option.map_some, Option.some.injEq, Prod.mk.injEq] at hj
    exact ⟨j, by have := (List.getElem?_eq_some_iff.1 hy).1; omega, by rw [← hj.1]; exact hids j y hy⟩
theorem srcOk_mono {ps : List (Int × Int)} {q : Int × Int} {s : Int × Int} (h : srcOk ps s) : srcOk (ps ++ [q]) s := by
  unfold srcOk at h ⊢
  by_cases h0 : s.1 = 0
  · rw [if_pos h0] at h ⊢; exact h
  · rw [if_neg h0] at h ⊢
    cases ho : asF s.1 ps with
    | none => rw [ho] at h; exact h.elim
    | some n => rw [ho] at h; rw [asF_app, ho]; exact h
theorem BI.zero (ms : List Mach) (its : List Item) (P : List UInt8) : BI ms its P 0 := ⟨by simp [bAt, tkF], by simp [bAt, tkF], by simp [bAt], by simp [bAt]⟩
theorem BI.step {ms : List Mach} {its : List Item} {P : List UInt8} {i : Nat} (h : BI ms its P i) (hi : i < 6) (hm : 1 ≤ ms.length) (hn : (ms.map Mach.id).Nodup) (hc : ∀ m ∈ ms, 1 ≤ m.caps.length) (hl : its.length ≤ 2000) : BI ms its P (i + 1) := by
  obtain ⟨nd, src, ids, pok⟩ := h
  have hlen := bAt_len ms its P i
  have e1 : (bAt ms its P (i + 1)).1 = bNext ms (P.getD i 0).toNat i (bAt ms its P i).1 := rfl
  have e2 : (bAt ms its P (i + 1)).2 = (bAt ms its P i).2 ++ [bPass ms its (P.getD i 0).toNat i (bAt ms its P i).1] := rfl
  have hn8 := (P.getD i 0).toNat_lt
  generalize (P.getD i 0).toNat = n at e1 e2 hn8
  generalize (bAt ms its P i).1 = left at *
  generalize (bAt ms its P i).2 = pss at *
  obtain ⟨m, hmm, hmd⟩ : ∃ m, m ∈ ms ∧ bMd ms n = m := by
    have hlt : n % ms.length < ms.length := Nat.mod_lt _ (by omega)
    exact ⟨ms[n % ms.length], List.getElem_mem _, by unfold bMd; simp [List.getD_eq_getElem?_getD, hlt]⟩
  have hcm := hc m hmm
  have hmsl : asF m.id (mslF ms) = some (m.caps.length : Int) := by
    obtain ⟨j, hj⟩ := List.getElem?_of_mem hmm
    exact asF_at (j := j) (by rw [mslF_keys]; exact hn) (by rw [mslF, List.getElem?_map, hj]; rfl)
  -- what is left, with the new batch
  have hL : (bLeft i left ++ tkF pss).Nodup ∧ ∀ s ∈ bLeft i left ++ tkF pss, srcOk (psF (mslF ms) pss) s ∧ (s.1 = 0 → s.2 ≤ min (i + 1) 3) := by
    unfold bLeft
    by_cases h3 : i < 3
    · rw [if_pos h3]
      refine ⟨?_, fun s hs => ?_⟩
      · rw [List.append_assoc, List.singleton_append]
        refine List.perm_middle.nodup_iff.2 (List.nodup_cons.2 ⟨fun hh => ?_, nd⟩)
        have := (src _ hh).2 rfl
        dsimp only at this
        omega
      · rw [List.append_assoc, List.singleton_append] at hs
        rcases List.mem_cons.1 (List.perm_middle.mem_iff.1 hs) with rfl | hs
        · refine ⟨?_, fun _ => by dsimp only; omega⟩
          unfold srcOk
          rw [if_pos rfl]
          dsimp only; omega
        · exact ⟨(src s hs).1, fun h0 => by have := (src s hs).2 h0; omega⟩
    · rw [if_neg h3]
      exact ⟨nd, fun s hs => ⟨(src s hs).1, fun h0 => by have := (src s hs).2 h0; omega⟩⟩
  have hpp := bPick_perm n (bLeft i left) 0 [] []
  rw [List.nil_append, List.nil_append] at hpp
  have hy : bPass ms its n i left = ⟨20 - i, m.id, (n : Int) / 8 % 16, (bPick n 0 [] [] (bLeft i left)).1, bTab n m.caps.length 8, bUn its n i its.length⟩ := by unfold bPass; rw [hmd]
  have hx : bNext ms n i left = (bPick n 0 [] [] (bLeft i left)).2 ++ bSrcs (20 - i) m.caps.length := by unfold bNext; rw [hmd]
  generalize (bPick n 0 [] [] (bLeft i left)).1 = fr at *
  generalize (bPick n 0 [] [] (bLeft i left)).2 = re at *
  generalize bLeft i left = left2 at *
  rw [hx] at e1
  rw [hy] at e2
  clear hx hy
  have hnew : asF (20 - (i : Int)) (psF (mslF ms) pss) = none := by
    cases ho : asF (20 - (i : Int)) (psF (mslF ms) pss) with
    | none => rfl
    | some q =>
      obtain ⟨j, hj, e⟩ := key_ids hlen ids ho
      omega
  have hold : ∀ s ∈ left2 ++ tkF pss, s.1 ≠ 20 - (i : Int) := fun s hs e => by
    have h1 := (hL.2 s hs).1
    unfold srcOk at h1
    rw [if_neg (by omega), e, hnew] at h1
    exact h1
  have hps2 : psF (mslF ms) (pss ++ [⟨20 - i, m.id, (n : Int) / 8 % 16, fr, bTab n m.caps.length 8, bUn its n i its.length⟩]) = psF (mslF ms) pss ++ [(20 - (i : Int), (m.caps.length : Int))] := by simp [psF, hmsl]
  have htk2 : tkF (pss ++ [⟨20 - i, m.id, (n : Int) / 8 % 16, fr, bTab n m.caps.length 8, bUn its n i its.length⟩]) = tkF pss ++ fr := by simp [tkF]
  have hfr : ∀ s ∈ fr, s ∈ left2 := fun s hs => hpp.mem_iff.1 (List.mem_append.2 (.inl hs))
  have hre : ∀ s ∈ re, s ∈ left2 := fun s hs => hpp.mem_iff.1 (List.mem_append.2 (.inr hs))
  have hsrcs : ∀ s ∈ bSrcs (20 - (i : Int)) m.caps.length, s.1 = 20 - (i : Int) ∧ 0 ≤ s.2 ∧ s.2 < m.caps.length := fun s hs => by
    obtain ⟨k, hk, rfl⟩ := List.mem_map.1 hs
    have := List.mem_range.1 hk
    exact ⟨rfl, by dsimp only; omega, by dsimp only; omega⟩
  have hsn : (bSrcs (20 - (i : Int)) m.caps.length).Nodup := by
    unfold bSrcs
    refine List.Pairwise.map _ (R := fun a b => a ≠ b) (fun a b hab e => hab ?_) List.nodup_range
    have := (Prod.mk.inj e).2
    omega
  refine ⟨?_, fun s hs => ?_, fun j y hy => ?_, fun j y hy => ?_⟩
  · rw [e1, e2, htk2]
    have hperm : (re ++ bSrcs (20 - (i : Int)) m.caps.length ++ (tkF pss ++ fr)).Perm (bSrcs (20 - (i : Int)) m.caps.length ++ (left2 ++ tkF pss)) := by
      have p1 : (re ++ bSrcs (20 - (i : Int)) m.caps.length ++ (tkF pss ++ fr)).Perm (bSrcs (20 - (i : Int)) m.caps.length ++ (re ++ (tkF pss ++ fr))) := by
        rw [← List.append_assoc (bSrcs _ _)]
        exact List.Perm.append_right _ List.perm_append_comm
      refine p1.trans (List.Perm.append_left _ ?_)
      have p2 : (re ++ (tkF pss ++ fr)).Perm (re ++ (fr ++ tkF pss)) := List.Perm.append_left _ List.perm_append_comm
      refine p2.trans ?_
      rw [← List.append_assoc]
      exact List.Perm.append_right _ (List.perm_append_comm.trans hpp)
    refine hperm.nodup_iff.2 (List.nodup_append.2 ⟨hsn, hL.1, fun a ha b hb e => ?_⟩)
    subst e
    exact hold a hb (hsrcs a ha).1
  · rw [e1, e2, htk2] at hs
    rw [e2, hps2]
    rcases List.mem_append.1 hs with hs | hs
    · rcases List.mem_append.1 hs with hs | hs
      · have := hL.2 s (List.mem_append.2 (.inl (hre s hs)))
        exact ⟨srcOk_mono this.1, this.2⟩
      · obtain ⟨g1, g2, g3⟩ := hsrcs s hs
        refine ⟨?_, fun h0 => by omega⟩
        unfold srcOk
        rw [if_neg (by omega), g1, asF_app, hnew]
        simp only [asF, if_true, Option.none_or]
        exact ⟨g2, g3⟩
    · have hs' : s ∈ left2 ++ tkF pss := by
        rcases List.mem_append.1 hs with hs | hs
        · exact List.mem_append.2 (.inr hs)
        · exact List.mem_append.2 (.inl (hfr s hs))
      exact ⟨srcOk_mono (hL.2 s hs').1, (hL.2 s hs').2⟩
  · rw [e2] at hy
    by_cases hj : j < pss.length
    · rw [List.getElem?_append_left hj] at hy; exact ids j y hy
    · have : j = pss.length := by have h := (List.getElem?_eq_some_iff.1 hy).1; rw [List.length_append, List.length_singleton] at h; omega
      subst this
      rw [List.getElem?_append_right (Nat.le_refl _), Nat.sub_self] at hy
      cases hy
      dsimp only; omega
  · rw [e2] at hy ⊢
    by_cases hj : j < pss.length
    · rw [List.getElem?_append_left hj] at hy
      rw [List.take_append_of_le_length (by omega)]
      exact pok j y hy
    · have : j = pss.length := by have h := (List.getElem?_eq_some_iff.1 hy).1; rw [List.length_append, List.length_singleton] at h; omega
      subst this
      rw [List.getElem?_append_right (Nat.le_refl _), Nat.sub_self] at hy
      cases hy
      rw [List.take_append_of_le_length (Nat.le_refl _), List.take_length]
      have hfn : fr.Nodup := by
        have := (List.nodup_append.1 hL.1).1
        exact (List.nodup_append.1 (hpp.nodup_iff.2 this)).1
      refine ⟨⟨⟨hnew, by rw [hmsl]; rfl⟩, by unfold idOk; dsimp only; omega, by dsimp only; omega⟩, srcs_of hfn fun s hs => ⟨fun hh => ?_, (hL.2 s (List.mem_append.2 (.inl (hfr s hs)))).1⟩, ⟨?_, ?_⟩, ?_⟩
      · exact (List.nodup_append.1 hL.1).2.2 s (hfr s hs) s hh rfl
      · have := bTab_len n m.caps.length 8
        dsimp only; omega
      · have := bUn_len its n i its.length
        dsimp only; omega
      · dsimp only
        rw [hmsl, Option.getD_some]
        refine rows_of (bTab_nodup _ _ _) fun e he => ⟨by simp, ?_⟩
        obtain ⟨s, _, _, rfl⟩ := bTab_mem he
        have : (n + s) % m.caps.length < m.caps.length := Nat.mod_lt _ (by omega)
        dsimp only; omega
theorem BI.all {ms : List Mach} {its : List Item} {P : List UInt8} (hm : 1 ≤ ms.length) (hn : (ms.map Mach.id).Nodup) (hc : ∀ m ∈ ms, 1 ≤ m.caps.length) (hl : its.length ≤ 2000) : ∀ i, i ≤ 6 → BI ms its P i
  | 0, _ => BI.zero ms its P
  | i + 1, h => BI.step (BI.all hm hn hc hl i (by omega)) (by omega) hm hn hc hl
/-- Plants that built makes, with machines of other rates. -/
def rated (ms : List Mach) (rs : List Int) : List Mach := ms.zipWith (fun m r => { m with rate := r }) rs
theorem built_bi (x : Sk) : BI (bMs x) (bIs x) x.ps (min x.ps.length 6) :=
  BI.all (bMs_len x).1 (bMs_nodup x) (fun m hm => (bMs_caps hm).1) (by unfold bIs; rw [bIsN_len]; omega) _ (by omega)
theorem built_valid (x : Sk) : validF (built x) = (0, 0) := by
  have hb := built_bi x
  have hl := bMs_len x
  refine validF_of ⟨?_, ?_, ?_⟩ (bMs_nodup x) (fun m hm => ?_) (bIs_nodup x) (bIs_ok x) hb.pok
  · show (bMs x).length ≤ 20; omega
  · show (bIs x).length ≤ 2000; unfold bIs; rw [bIsN_len]; omega
  · show (bAt (bMs x) (bIs x) x.ps (min x.ps.length 6)).2.length ≤ 60; rw [bAt_len]; omega
  · obtain ⟨j, hj⟩ := List.getElem?_of_mem (show m ∈ bMs x from hm)
    obtain ⟨hj1, rfl⟩ := bMach_id hj
    have h0 := nb_bd x.ms 0
    have h2 := nb_bd x.ms (j + 2)
    exact bMach_right x.ms x.shs j (by omega) (r := 1 + nb x.ms (j + 2) % 5) (by omega)
end Go.Sx.Plt
namespace Go.Sx.Srt
open Go.Sx.Seq (addAt addAt_len)
def shift (d : Int) (m : M) : M := { m with left := m.left + d }
/-- How many sweeps are needed. -/
def needed (caps : List Int) (l : List Fd) : Int := (playF caps l.length l).swept.sum
/-! ## events -/
end Go.Sx.Srt
namespace Go.Sx.Srt
open Go.Sx.Seq (addAt addAt_len)
/-- What belongs to a stacker, in the order of feeding. -/
def goes (l : List Fd) (k : Nat) : List Int := (l.filter fun f => f.st = (k : Int)).map Fd.item
def refused (l : List Fd) : List Int := (l.filter fun f => f.st < 0).map Fd.item
end Go.Sx.Srt
namespace Go.Sx.Plt
open Go.Proofs.Ytkhaemjoekfhiaa (mslF_keys psF tkF psF_snoc tkF_snoc)
/-! ## slices and minutes -/
theorem span_min {rel : Int} : ∀ {l : List Sh} {left : Int}, 0 ≤ left → spanF (slicesF rel left l) = min left (haveF rel l)
  | [], left, h => by simp [slicesF, spanF, haveF]; omega
  | s :: r, left, h => by
    have hh : 0 ≤ haveF rel r := by
      have : ∀ l : List Sh, 0 ≤ haveF rel l := by
        intro l
        induction l with
        | nil => simp [haveF]
        | cons a l ih => rw [haveF]; omega
      exact this r
    rw [slicesF, haveF]
    by_cases hc : left = 0 ∨ s.t ≤ max s.f rel
    · rw [if_pos hc, span_min h]
      rcases hc with h0 | h0 <;> omega
    · rw [if_neg hc, spanF, span_min (by omega)]
      dsimp only
      omega
/-- Slices, one behind the other. -/
def Chain : Int → List (Int × Int) → Prop
  | _, [] => True
  | e, s :: r => (e ≤ s.1 ∧ s.1 < s.2) ∧ Chain s.2 r
theorem Chain.mono : ∀ {l : List (Int × Int)} {e e' : Int}, e' ≤ e → Chain e l → Chain e' l
  | [], _, _, _, _ => trivial
  | s :: r, e, e', h, hc => ⟨by have := hc.1; omega, hc.2⟩
theorem slices_chain {rel : Int} : ∀ {l : List Sh} {left b : Int} {i : Nat}, 0 ≤ left → wrongS b i l = none → Chain (max b rel) (slicesF rel left l)
  | [], _, _, _, _, _ => trivial
  | s :: r, left, b, i, h, hw => by
    rw [wrongS] at hw
    split at hw
    · rename_i hs
      unfold Sh.ok at hs
      rw [slicesF]
      by_cases hc : left = 0 ∨ s.t ≤ max s.f rel
      · rw [if_pos hc]
        exact Chain.mono (by omega) (slices_chain h hw)
      · rw [if_neg hc]
        refine ⟨by dsimp only; omega, ?_⟩
        dsimp only
        by_cases hl : left - (min s.t (max s.f rel + left) - max s.f rel) = 0
        · rw [hl]
          have : ∀ l : List Sh, slicesF rel 0 l = [] := by
            intro l
            induction l with
            | nil => rfl
            | cons a l ih => rw [slicesF, if_pos (.inl rfl), ih]
          rw [this]; trivial
        · have hm : min s.t (max s.f rel + left) = s.t := by omega
          rw [hm]
          exact Chain.mono (by omega) (slices_chain (by omega) hw)
    · cases hw
theorem slices_inside {rel : Int} : ∀ {l : List Sh} {left : Int}, 0 ≤ left → ∀ s ∈ slicesF rel left l, ∃ h ∈ l, h.f ≤ s.1 ∧ s.2 ≤ h.t
  | [], _, _, s, hs => by simp [slicesF] at hs
  | a :: r, left, h, s, hs => by
    rw [slicesF] at hs
    split at hs
    · obtain ⟨x, hx, h1⟩ := slices_inside h s hs
      exact ⟨x, List.mem_cons_of_mem _ hx, h1⟩
    · rcases List.mem_cons.1 hs with rfl | hs
      · exact ⟨a, List.mem_cons_self, by dsimp only; omega, by dsimp only; omega⟩
      · obtain ⟨x, hx, h1⟩ := slices_inside (by omega) s hs
        exact ⟨x, List.mem_cons_of_mem _ hx, h1⟩
theorem need_lt {k n : Int} {r : Int} (hr : 1 ≤ r) : k < (n + r - 1) / r ↔ k * r < n := by
  have h1 : k + 1 ≤ (n + r - 1) / r ↔ (k + 1) * r ≤ n + r - 1 := Int.le_ediv_iff_mul_le (by omega)
  have h2 : (k + 1) * r = k * r + r := by rw [Int.add_mul, Int.one_mul]
  rw [h2] at h1
  omega
/-! ## feeds -/
theorem tableF_mem {k v : Int} : ∀ l : List Row, asF k (tableF l) = some v → ∃ e ∈ l, e.stop = k ∧ e.st = v := by
  refine fun l => snoc_ind (p := fun l => asF k (tableF l) = some v → ∃ e ∈ l, e.stop = k ∧ e.st = v) (fun h => by simp [tableF, asF] at h) (fun l e ih h => ?_) l
  rw [tableF_snoc, asF_put] at h
  by_cases hk : e.stop = k
  · rw [if_pos hk] at h
    exact ⟨e, by simp, hk, by simpa using h⟩
  · rw [if_neg hk] at h
    obtain ⟨x, hx, h1⟩ := ih h
    exact ⟨x, List.mem_append.2 (.inl hx), h1⟩
theorem rows_spec {n : Int} : ∀ {l : List Row} {met : List Int}, rowsOk n met l → ∀ e ∈ l, 0 ≤ e.st ∧ e.st < n
  | [], _, _, e, h => by simp at h
  | a :: r, met, h, e, he => by
    rcases List.mem_cons.1 he with rfl | he
    · exact h.1.2
    · exact rows_spec h.2 e he
theorem feed_item (stops : List (Int × Int)) (y : Pass) (x : Int) : (feedOf stops y x).item = x := by unfold feedOf; split <;> rfl
theorem feed_bd {stops : List (Int × Int)} {y : Pass} {n : Int} (hr : rowsOk n [] y.table) (hn : 0 ≤ n) (x : Int) : -1 ≤ (feedOf stops y x).st ∧ (feedOf stops y x).st < n := by
  unfold feedOf
  cases ho : asF ((asF x stops).getD 0) (tableF y.table) with
  | none => dsimp only; omega
  | some k =>
    obtain ⟨e, he, _, rfl⟩ := tableF_mem _ ho
    have := rows_spec hr e he
    dsimp only
    split <;> omega
theorem Valid.feeds {p : Plant} (hv : Valid p) {i : Nat} {h : Hall} (hi : Inv p i h) {y : Pass} (hy : p.passes[i]? = some y) {m : Mach} (hm : asF y.mach (mslF p.ms) = some (m.caps.length : Int)) {items : List Int} (hit : items = y.src.flatMap h.row) : Srt.FdsOk m.caps.length (items.map (feedOf (stopsF p.items) y)) ∧ (∀ x ∈ items, x ∈ p.items.map Item.id) ∧ items.Nodup := by
  have hs := hv.src hy
  have hcount := fun x => hi.count hs.1 (fun s hs' => (hs.2 s hs').1) x
  rw [← hit] at hcount
  have hmem : ∀ x ∈ items, x ∈ p.items.map Item.id := fun x hx => by
    have h1 := List.count_pos_iff.2 hx
    have := hcount x
    exact List.count_pos_iff.1 (by omega)
  have hnd : items.Nodup := List.nodup_iff_count.2 fun x => by
    have := hcount x
    have := List.nodup_iff_count.1 hv.ind x
    omega
  refine ⟨⟨fun f hf => ?_, ?_, ?_⟩, hmem, hnd⟩
  · obtain ⟨x, hx, rfl⟩ := List.mem_map.1 hf
    obtain ⟨z, hz, e⟩ := List.mem_map.1 (hmem x hx)
    have hok := (hv.iok z hz).1
    unfold idOk at hok
    have hrow := (hv.pok i y hy).2.2.2
    rw [hm, Option.getD_some] at hrow
    have := feed_bd (stops := stopsF p.items) hrow (by omega) x
    unfold Srt.Fd.ok
    rw [feed_item]
    omega
  · rw [feed_items]; exact hnd
  · rw [List.length_map]
    have := hi.len hv hs.1 (fun s hs' => (hs.2 s hs').1)
    rw [← hit] at this
    exact this
/-! ## one run -/
/-- A run that was run. -/
structure Ran (p : Plant) (h : Hall) (m : Mach) (y : Pass) (r : Run) (ready : Int) : Prop where
  take : takeSrc h (max y.rel ((asF m.id h.free).getD 0)) [] y.src = some (ready, r.items)
  pass : r.pass = y.id
  res : Srt.runF m.caps m.sweeps (r.items.map (feedOf (stopsF p.items) y)) = (r.res, 0)
  hall : (runF h m (stopsF p.items) y).2 = ⟨putRows y.id 0 r.res.stackers h.rows, putF y.id r.fin h.ends, putF m.id r.fin h.free⟩
  slices : r.slices = if r.items = [] then [] else slicesF ready (needOf r.items.length m.rate) m.shifts
  enough : needOf r.items.length m.rate ≤ haveF ready m.shifts
  start : r.start = if r.items = [] then ready else (r.slices.headD (0, 0)).1
  fin : r.fin = if r.items = [] then ready else (r.slices.getLastD (0, 0)).2
/-- A run that was not. -/
structure Miss (p : Plant) (h : Hall) (m : Mach) (y : Pass) (r : Run) : Prop where
  eq : r = missed y
  hall : (runF h m (stopsF p.items) y).2 = h
  why : ∀ ready items, takeSrc h (max y.rel ((asF m.id h.free).getD 0)) [] y.src = some (ready, items) → haveF ready m.shifts * m.rate < items.length
theorem need_nonneg {n : Nat} {r : Int} (hr : 1 ≤ r) : 0 ≤ needOf n r := Int.ediv_nonneg (by omega) (by omega)
theorem haveF_nonneg (t : Int) : ∀ l : List Sh, 0 ≤ haveF t l
  | [] => by simp [haveF]
  | a :: r => by have := haveF_nonneg t r; rw [haveF]; omega
theorem run_cases {p : Plant} (hv : Valid p) {i : Nat} {h : Hall} (hi : Inv p i h) {y : Pass} (hy : p.passes[i]? = some y) {m : Mach} (hm : asF y.mach (mslF p.ms) = some (m.caps.length : Int)) (hr : rightM m) :
    Miss p h m y (runF h m (stopsF p.items) y).1 ∨ ∃ ready, Ran p h m y (runF h m (stopsF p.items) y).1 ready := by
  have hrate := hr.2.1.1
  cases ht : takeSrc h (max y.rel ((asF m.id h.free).getD 0)) [] y.src with
  | none =>
    have e : runF h m (stopsF p.items) y = (missed y, h) := by unfold runF; rw [ht]
    exact .inl ⟨by rw [e], by rw [e], fun ready items hh => by rw [ht] at hh; cases hh⟩
  | some q =>
    obtain ⟨ready, items⟩ := q
    have hit := (takeSrc_spec ht).1
    rw [List.nil_append] at hit
    obtain ⟨hfd, _, _⟩ := hv.feeds hi hy hm hit
    have hcaps : Srt.capsOk m.caps ∧ 0 ≤ m.sweeps ∧ m.sweeps ≤ 1000 := by
      have h1 := hr.2.2.1
      unfold Srt.runF at h1
      split at h1
      · cases h1
      · rename_i hc
        split at h1
        · cases h1
        · rename_i hs
          exact ⟨Classical.not_not.1 hc, by omega, by omega⟩
    have hres := Srt.runF_ok hcaps.1 hcaps.2 hfd
    by_cases hne : items = []
    · subst hne
      have e := Go.Proofs.Ytkhaemjoekfhiaa.runF_idle (stops := stopsF p.items) ht
      rw [show Srt.runF m.caps m.sweeps [] = _ from hres] at e
      unfold Go.Proofs.Ytkhaemjoekfhiaa.tailF at e
      rw [if_neg (by simp)] at e
      refine .inr ⟨ready, ?_⟩
      rw [e]
      refine ⟨ht, rfl, hres, by rw [e], rfl, ?_, rfl, rfl⟩
      have : needOf ([] : List Int).length m.rate = 0 := by
        unfold needOf
        exact Int.ediv_eq_zero_of_lt (by simp; omega) (by simp; omega)
      dsimp only
      rw [this]
      exact haveF_nonneg _ _
    · have hsp := span_min (rel := ready) (l := m.shifts) (need_nonneg (n := items.length) hrate)
      by_cases hl : slicesF ready (needOf items.length m.rate) m.shifts = [] ∨ spanF (slicesF ready (needOf items.length m.rate) m.shifts) < needOf items.length m.rate
      · have e := Go.Proofs.Ytkhaemjoekfhiaa.runF_late (stops := stopsF p.items) ht hne hl
        refine .inl ⟨by rw [e], by rw [e], fun r2 i2 hh => ?_⟩
        rw [ht] at hh
        cases hh
        have hn1 : 1 ≤ needOf items.length m.rate := by
          have := List.length_pos_iff.2 hne
          unfold needOf
          exact Int.le_ediv_of_mul_le (by omega) (by omega)
        have h2 : haveF ready m.shifts < needOf items.length m.rate := by
          rcases hl with h0 | h0
          · rw [h0, spanF] at hsp; omega
          · omega
        exact (need_lt hrate).1 h2
      · have e := Go.Proofs.Ytkhaemjoekfhiaa.runF_busy (stops := stopsF p.items) ht hne hl
        rw [hres] at e
        unfold Go.Proofs.Ytkhaemjoekfhiaa.tailF at e
        rw [if_neg (by simp)] at e
        refine .inr ⟨ready, ?_⟩
        rw [e]
        refine ⟨ht, rfl, hres, by rw [e], by dsimp only; rw [if_neg hne], by dsimp only; omega, by dsimp only; rw [if_neg hne], by dsimp only; rw [if_neg hne]⟩
end Go.Sx.Plt
namespace Go.Sx.Plt
open Go.Proofs.Ytkhaemjoekfhiaa (mslF_keys psF tkF psF_snoc tkF_snoc)
/-- The run of a pass of a valid plant. -/
theorem Valid.run {p : Plant} (hv : Valid p) {i : Nat} {y : Pass} (hy : p.passes[i]? = some y) {r : Run} (hr : (playF p)[i]? = some r) : ∃ (k : Nat) (m : Mach), p.ms[k]? = some m ∧ m.id = y.mach ∧ rightM m ∧ r = (runF (hallAt p i) m (stopsF p.items) y).1 ∧ hallAt p (i + 1) = (runF (hallAt p i) m (stopsF p.items) y).2 ∧
    asF y.mach (mslF p.ms) = some (m.caps.length : Int) ∧ (Miss p (hallAt p i) m y r ∨ ∃ ready, Ran p (hallAt p i) m y r ready) := by
  obtain ⟨k, m, h1, h2, h3, h4, h5⟩ := hv.mach hy
  have hg := playF_get hy
  rw [hr, h3] at hg
  have e : r = (runF (hallAt p i) m (stopsF p.items) y).1 := Option.some.inj hg
  refine ⟨k, m, h1, h2, h4, e, by rw [hallAt_succ hy, h3], h5, ?_⟩
  rw [e]
  exact run_cases hv (Inv.all hv i) hy h5 h4
theorem pass_lt {p : Plant} {i : Nat} {y : Pass} (h : p.passes[i]? = some y) : i < p.passes.length := (List.getElem?_eq_some_iff.1 h).1
theorem Valid.get {p : Plant} {i : Nat} {y : Pass} (h : p.passes[i]? = some y) : ∃ r, (playF p)[i]? = some r := ⟨_, List.getElem?_eq_getElem (by rw [playF_len]; exact pass_lt h)⟩
theorem hall_stay {p : Plant} {i : Nat} (h : p.passes[i]? = none) : hallAt p (i + 1) = hallAt p i := by
  unfold hallAt
  rw [List.take_add_one, h]; simp
/-! ## rows -/
theorem batch_row (b : Int) : ∀ l : List Item, (asF ((0 : Int), b) (batchRows [] l)).getD [] = ofBatch l (0, b) := by
  refine fun l => snoc_ind (p := fun l => (asF ((0 : Int), b) (batchRows [] l)).getD [] = ofBatch l (0, b)) (by simp [batchRows, asF, ofBatch]) (fun l x ih => ?_) l
  rw [batch_snoc, asF_put]
  unfold ofBatch at ih ⊢
  rw [if_pos rfl] at ih ⊢
  rw [List.filter_append, List.map_append]
  by_cases h : x.batch = b
  · rw [if_pos (by rw [h]), Option.getD_some, h, ih]; simp [h]
  · rw [if_neg (fun e => h (Prod.mk.inj e).2), ih]; simp [h]
theorem batch_row0 {s : Int × Int} (h : s.1 ≠ 0) (l : List Item) : asF s (batchRows [] l) = none := by
  refine snoc_ind (p := fun l => asF s (batchRows [] l) = none) (by simp [batchRows, asF]) (fun l x ih => ?_) l
  rw [batch_snoc, asF_put, if_neg (fun e => h (by rw [← e]))]
  exact ih
theorem ofRun_missed (y : Pass) {s : Int × Int} (h : 0 ≤ s.2) : ofRun s (missed y) = [] := by
  unfold ofRun
  rw [if_neg]
  rintro ⟨_, h2⟩
  simp [missed, Srt.M.new] at h2
  omega
theorem Valid.rows {p : Plant} (hv : Valid p) {s : Int × Int} (hs : 0 ≤ s.2) : ∀ i, (hallAt p i).row s = ofBatch p.items s ++ ((playF p).take i).flatMap (ofRun s)
  | 0 => by
    rw [hallAt_zero, List.take_zero, List.flatMap_nil, List.append_nil]
    unfold Hall.row hall0
    dsimp only
    by_cases h0 : s.1 = 0
    · obtain ⟨a, b⟩ := s
      dsimp only at h0
      subst h0
      exact batch_row b p.items
    · rw [batch_row0 h0]
      unfold ofBatch
      rw [if_neg h0]; rfl
  | i + 1 => by
    have ih := Valid.rows hv hs i
    cases hy : p.passes[i]? with
    | none =>
      have hl : p.passes.length ≤ i := by
        rcases Nat.lt_or_ge i p.passes.length with h | h
        · rw [List.getElem?_eq_getElem h] at hy; cases hy
        · exact h
      rw [hall_stay hy, ih, List.take_of_length_le (by rw [playF_len]; omega), List.take_of_length_le (by rw [playF_len]; omega)]
    | some y =>
      obtain ⟨r, hr⟩ := Valid.get hy
      obtain ⟨k, m, _, _, _, hre, hh, _, hc⟩ := hv.run hy hr
      rw [flatMap_snoc' _ hr, ← List.append_assoc, ← ih]
      rcases hc with hc | ⟨ready, hc⟩
      · rw [hh, hc.hall, hc.eq, ofRun_missed y hs, List.append_nil]
      · rw [hh, hc.hall]
        unfold Hall.row
        dsimp only
        obtain ⟨a, b⟩ := s
        dsimp only at hs
        rw [putRows_as]
        have hidn : y.id ≠ 0 := by
          have := (hv.pok i y hy).1.2.1
          unfold idOk at this
          omega
        unfold ofRun
        rw [hc.pass]
        dsimp only
        by_cases hid : a = y.id
        · subst hid
          have h0 : asF (y.id, b) (hallAt p i).rows = none := (Inv.all hv i).row_early hidn (hv.new hy)
          rw [h0]
          by_cases hb : b < (r.res.stackers.length : Int)
          · rw [if_pos ⟨rfl, by omega, by omega⟩, if_pos ⟨rfl, hb⟩]
            simp [List.getD_eq_getElem?_getD]
          · rw [if_neg (by rintro ⟨_, _, h⟩; omega), if_neg (fun h => hb h.2)]; rfl
        · rw [if_neg (fun h => hid h.1), if_neg (fun h => hid h.1.symm), List.append_nil]
theorem src_nonneg {ps : List (Int × Int)} {s : Int × Int} (h : srcOk ps s) : 0 ≤ s.2 := by
  unfold srcOk at h
  split at h
  · omega
  · split at h
    · exact h.elim
    · exact h.1
theorem Valid.src_nn {p : Plant} (hv : Valid p) {i : Nat} {y : Pass} (hy : p.passes[i]? = some y) : ∀ s ∈ y.src, 0 ≤ s.2 := fun s hs => src_nonneg ((srcs_spec (hv.pok i y hy).2.1).2 s hs).2
theorem Valid.taken' {p : Plant} (hv : Valid p) {i : Nat} {y : Pass} (hy : p.passes[i]? = some y) : y.src.flatMap (hallAt p i).row = takenF p.items ((playF p).take i) y.src := by
  unfold takenF
  have : ∀ l : List (Int × Int), (∀ s ∈ l, 0 ≤ s.2) → l.flatMap (hallAt p i).row = l.flatMap fun s => ofBatch p.items s ++ ((playF p).take i).flatMap (ofRun s) := by
    intro l
    induction l with
    | nil => intro _; rfl
    | cons a l ih =>
      intro h
      rw [List.flatMap_cons, List.flatMap_cons, ih fun s hs => h s (List.mem_cons_of_mem _ hs), hv.rows (h a List.mem_cons_self) i]
  exact this _ (hv.src_nn hy)
theorem Valid.taken_len {p : Plant} (hv : Valid p) {i : Nat} {y : Pass} (hy : p.passes[i]? = some y) : (takenF p.items ((playF p).take i) y.src).length ≤ 2000 := by
  rw [← hv.taken' hy]
  have hs := hv.src hy
  exact (Inv.all hv i).len hv hs.1 fun s hs' => (hs.2 s hs').1
theorem Ran.items {p : Plant} {i : Nat} {m : Mach} {y : Pass} {r : Run} {ready : Int} (hc : Ran p (hallAt p i) m y r ready) (hv : Valid p) (hy : p.passes[i]? = some y) : r.items = takenF p.items ((playF p).take i) y.src := by
  have := (takeSrc_spec hc.take).1
  rw [List.nil_append] at this
  rw [this, hv.taken' hy]
/-! ## where items are put -/
structure Placed (r : Run) (x st : Int) : Prop where
  all : allN r x r.res.stackers.length = 1
  rej : st < 0 → holdsF r x 4 r.pass 0
  put : 0 ≤ st → holdsF r x 2 r.pass st ∨ holdsF r x 3 r.pass 0
  place : ∀ kd ps nu, placeF r x = (kd, ps, nu) → (kd = 2 ∨ kd = 3 ∨ kd = 4) ∧ holdsF r x kd ps nu
end Go.Sx.Plt
namespace Go.Proofs.Ytkhaemjoekfhiaa
open Go Go.Sx Go.RowKit
attribute [local irreducible] WL WC WQ WR WB WF QB St Exit.then Exit.inBlock Exit.noGoto bodyPost roundPost beginK YR RG BM Calls B AgainD MeetD
/-! ## awake -/
theorem len20 : (Plt.playF (Plt.exPl 20)).length = 2 := by rw [Plt.playF_len]; rfl
theorem len14 : (Plt.playF (Plt.exPl 14)).length = 2 := by rw [Plt.playF_len]; rfl
set_option maxHeartbeats 16000000 in
set_option maxRecDepth 100000 in
theorem awake_calls (w : World) : Calls Try.prog 16 #[] w fun e w' => e = .returned (.bool true) ∧ Below w.heap.size w w' := by
  have hl20 := len20
  have hl14 := len14
  obtain ⟨r0, hr0, e01, e02, e03, e04, e05⟩ := Plt.ex20_r0
  obtain ⟨r1, hr1, e11, e12, e13, e14⟩ := Plt.ex20_r1
  obtain ⟨s0, hs0, f01⟩ := Plt.ex14_r0
  obtain ⟨s1, hs1, f11, f12, f13⟩ := Plt.ex14_r1
  refine f_enter0 Try.func16 rfl Try.ntmps16 rfl (Rep.start w) ?_
  repeat' (first | ((first | ((with_reducible apply o_call_new (f := 35)); exact rfl) | ((with_reducible apply q_call_new (f := 35)); exact rfl; exact rfl; exact sJ_)); exact eV_; exact (fun w _ => example_calls w); rintro v NE ⟨b1, b2, b3, b4, b5, b6, b7, b8, b9, rfl, rfl⟩ <;> (try simp only [List.cons_append, List.nil_append])) | ((first | ((with_reducible apply o_call_new (f := 11)); exact rfl) | ((with_reducible apply q_call_new (f := 11)); exact rfl; exact rfl; exact sJ_)); exact eV_; exact (fun w hw => play_calls31 (Plt.calm_of Plt.ex20_valid) w (ex_plV _ _ _ _ (by exact rL_) hw)); rintro v NR ⟨ar, cr, rds, rfl, ⟨hsh, hrl⟩, oR⟩ <;> (try simp only [List.cons_append, List.nil_append])) | ((with_reducible first | apply o_move | apply o_assign | apply o_faddr0 | apply o_not_d); exact rfl; exact rfl) | ((with_reducible apply gdo_load); first | refine wo_load (h := ?_) | refine wo_loadAll (h := ?_) | refine wo_loadC (h := ?_) | refine wo_ldV (h := ?_) | refine wo_ldF (h := ?_)) | ((with_reducible first | apply o_eql | apply o_neq | apply o_extract); exact rfl; exact rfl; exact rfl) | ((with_reducible apply o_pick_f); exact rfl; exact fF_; exact rfl; exact rfl) | ((with_reducible apply o_alloc); exact rfl; intro _) | ((with_reducible apply gdo_store); first | refine wo_store1 (h := ?_) | refine wo_storeA (h := ?_)) | ((with_reducible apply o_len); infer_instance; exact rfl; exact rfl) | ((with_reducible first | apply g_run); exact rfl; exact gG_) | ((with_reducible first | apply c_seq | apply c_block | apply c_region | apply c_nil | apply c_ret | apply c_exit | apply c_skip)) | ((with_reducible first | apply e_then | apply e_then_ret | apply e_then_exit | apply e_in | apply e_in_ret | apply e_in_same)) | ((with_reducible first | apply o_appd | apply o_appn)))
  refine st_know (fun w' hw' => RunsV.at (hsh _ _ _ _ (by exact rL_) hw') hr0) ?_
  rintro ⟨br, offr, x1, k1, x2, k2, x3, n3, k3, x4, n4, k4, x5, k5, x6, k6, x7, n7, k7, rfl, hd0, hn3, g0⟩
  refine st_know (fun w' hw' => RunsV.at (hsh _ _ _ _ (by exact rL_) hw') hr1) ?_
  rintro ⟨br', offr', y1, l1, y2, l2, y3, m3, l3, y4, m4, l4, y5, l5, y6, l6, y7, m7, l7, ebr, hd1, hm3, g1⟩
  cases ebr
  have hsl : (Plt.slc3 r0.pass r0.slices)[1]? = some (3, 10, 12) := by rw [e03, e04]; rfl
  refine st_know (fun w' hw' => SV.ptr ((hsh _ _ _ _ (by exact rL_) hw').2.2 0 _ _ hd0 hr0).slices hsl) ?_
  rintro ⟨bs, offs, rfl⟩
  have hsn0 : r0.slices.length = 2 := by rw [e04]; rfl
  repeat' (first | ((with_reducible apply o_pick_f); exact rfl; exact decide_eq_false (by omega); exact rfl; exact rfl) | ((with_reducible apply g_run); exact rfl; exact decide_eq_false (by omega)) | ((with_reducible apply o_idx (m := 0)); infer_instance; infer_instance; exact rfl; exact rfl; exact rfl; exact rfl; omega) | ((with_reducible apply o_idx (m := 1)); infer_instance; infer_instance; exact rfl; exact rfl; exact rfl; exact rfl; omega) | ((with_reducible apply o_ldP); infer_instance; exact rfl; (intro w' hw'; first | exact SV.cell (hsh _ _ _ _ (by exact rL_) hw').1 hd0 (g0 _ _ rfl) | exact SV.cell (hsh _ _ _ _ (by exact rL_) hw').1 hd1 (g1 _ _ rfl)); exact rfl) | ((with_reducible apply o_ldPV (l := [.int .i64 3, .int .i64 10, .int .i64 12])); infer_instance; infer_instance; exact rfl; (intro w' hw' j' v' hj'; exact SV.cell ((hsh _ _ _ _ (by exact rL_) hw').2.2 0 _ _ hd0 hr0).slices hsl hj'); exact rfl; exact rfl) | ((first | ((with_reducible apply o_call_pure (f := 20)); exact rfl) | ((with_reducible apply q_call_pure (f := 20)); exact rfl; kernel_rfl; exact rfl; exact sJ_)); exact eV_; exact (fun w hw => same_yes e13 w ((hsh _ _ _ _ (by exact rL_) hw).2.2 1 _ _ hd1 hr1).items (SV.lit [1, 3, 4, 2, 5] encI_len hw (by exact aT_) rfl rfl (by decide)))) | ((first | ((with_reducible apply o_call_pure (f := 24)); exact rfl) | ((with_reducible apply q_call_pure (f := 24)); exact rfl; kernel_rfl; exact rfl; exact sJ_)); exact eV_; exact (fun w hw => lists_is e05 w (((hsh _ _ _ _ (by exact rL_) hw).2.2 0 _ _ hd0 hr0).stk' rfl) (SV.lit ([(_, 3, 3), (_, 2, 2)] : List SD) encS_len hw (by exact aT_) rfl rfl (by decide)) (LL.two' (x := [1, 3, 4]) (y := [2, 5]) encI_len hw (by exact aT_) (by exact aT_) (by decide) (by decide)))) | ((first | ((with_reducible apply o_call_pure (f := 24)); exact rfl) | ((with_reducible apply q_call_pure (f := 24)); exact rfl; kernel_rfl; exact rfl; exact sJ_)); exact eV_; exact (fun w hw => lists_is e14 w (((hsh _ _ _ _ (by exact rL_) hw).2.2 1 _ _ hd1 hr1).stk' rfl) (SV.lit ([(_, 3, 3), (_, 2, 2)] : List SD) encS_len hw (by exact aT_) rfl rfl (by decide)) (LL.two' (x := [3, 2, 5]) (y := [1, 4]) encI_len hw (by exact aT_) (by exact aT_) (by decide) (by decide)))) | ((first | ((with_reducible apply o_call_pure (f := 36)); exact rfl) | ((with_reducible apply q_call_pure (f := 36)); exact rfl; kernel_rfl; exact rfl; exact sJ_)); exact eV_; exact (fun w hw => atp_calls Plt.ex20_valid Plt.ex20_w1 w (ex_plV _ _ _ _ (by exact rL_) hw))) | ((first | ((with_reducible apply o_call_pure (f := 36)); exact rfl) | ((with_reducible apply q_call_pure (f := 36)); exact rfl; kernel_rfl; exact rfl; exact sJ_)); exact eV_; exact (fun w hw => atp_calls Plt.ex20_valid Plt.ex20_w2 w (ex_plV _ _ _ _ (by exact rL_) hw))) | ((first | ((with_reducible apply o_call_pure (f := 36)); exact rfl) | ((with_reducible apply q_call_pure (f := 36)); exact rfl; kernel_rfl; exact rfl; exact sJ_)); exact eV_; exact (fun w hw => atp_calls Plt.ex20_valid Plt.ex20_w3 w (ex_plV _ _ _ _ (by exact rL_) hw))) | ((first | ((with_reducible apply o_call_pure (f := 36)); exact rfl) | ((with_reducible apply q_call_pure (f := 36)); exact rfl; kernel_rfl; exact rfl; exact sJ_)); exact eV_; exact (fun w hw => atp_calls Plt.ex20_valid Plt.ex20_w4 w (ex_plV _ _ _ _ (by exact rL_) hw))) | ((with_reducible first | apply o_move | apply o_assign | apply o_faddr0 | apply o_not_d); exact rfl; exact rfl) | ((with_reducible first | apply o_faddr); exact rfl; exact rfl) | ((with_reducible apply gdo_load); first | refine wo_load (h := ?_) | refine wo_loadAll (h := ?_) | refine wo_loadC (h := ?_) | refine wo_ldV (h := ?_) | refine wo_ldF (h := ?_)) | ((with_reducible first | apply o_eql | apply o_neq | apply o_extract); exact rfl; exact rfl; exact rfl) | ((with_reducible apply gdo_binOp_neq); refine wo_neq_s (h := ?_)) | ((with_reducible apply o_not); exact rfl; exact rfl) | ((with_reducible apply o_pick_f); exact rfl; exact fF_; exact rfl; exact rfl) | ((with_reducible apply o_alloc); exact rfl; intro _) | ((with_reducible apply gdo_store); first | refine wo_store1 (h := ?_) | refine wo_storeA (h := ?_)) | ((with_reducible apply gdo_build); first | refine wo_build (h := ?_)) | ((with_reducible apply o_len); infer_instance; exact rfl; exact rfl) | ((with_reducible apply gdo_buildSlice); refine wo_buildSlice (h := fun _ => ?_)) | ((with_reducible first | apply g_run); exact rfl; exact gG_) | ((with_reducible first | apply c_seq | apply c_block | apply c_region | apply c_nil | apply c_ret | apply c_exit | apply c_skip)) | ((with_reducible apply c_cond_f); exact rfl; exact fF_) | ((with_reducible first | apply e_then | apply e_then_ret | apply e_then_exit | apply e_in | apply e_in_ret | apply e_in_same)) | ((with_reducible first | apply o_appd | apply o_appn)))
  simp only [exN, exQ, sdV, List.cons_append, List.nil_append]
  repeat' (first | ((with_reducible apply o_idx (m := 0)); infer_instance; infer_instance; exact rfl; exact rfl; exact rfl; exact rfl; omega) | ((with_reducible apply o_idx (m := 1)); infer_instance; infer_instance; exact rfl; exact rfl; exact rfl; exact rfl; omega) | ((first | ((with_reducible apply o_call_new (f := 11)); exact rfl) | ((with_reducible apply q_call_new (f := 11)); exact rfl; exact rfl; exact sJ_)); exact eV_; exact (fun w hw => play_calls31 (Plt.calm_of Plt.ex14_valid) w (ex_plV (t := 14) _ _ _ _ (by unfold exN; exact rL_) hw)); rintro v NS_ ⟨as_, cs_, sds, rfl, ⟨hshs, hsl2⟩, oS⟩ <;> (try simp only [List.cons_append, List.nil_append])) | ((with_reducible first | apply o_move | apply o_assign | apply o_faddr0 | apply o_not_d); exact rfl; exact rfl) | ((with_reducible first | apply o_faddr); exact rfl; exact rfl) | ((with_reducible apply gdo_load); first | refine wo_load (h := ?_) | refine wo_loadAll (h := ?_) | refine wo_loadC (h := ?_) | refine wo_ldV (h := ?_) | refine wo_ldF (h := ?_)) | ((with_reducible first | apply o_eql | apply o_neq | apply o_extract); exact rfl; exact rfl; exact rfl) | ((with_reducible apply o_pick_t); exact rfl; exact tT_; exact rfl; exact rfl) | ((with_reducible apply gdo_store); first | refine wo_store1 (h := ?_) | refine wo_storeA (h := ?_)) | ((with_reducible apply o_len); infer_instance; exact rfl; exact rfl) | ((with_reducible first | apply g_run); exact rfl; exact gG_) | ((with_reducible first | apply c_seq | apply c_block | apply c_region | apply c_nil | apply c_ret | apply c_exit | apply c_skip)) | ((with_reducible first | apply e_then | apply e_then_ret | apply e_then_exit | apply e_in | apply e_in_ret | apply e_in_same)))
  refine st_know (fun w' hw' => RunsV.at (hshs _ _ _ _ (by exact rL_) hw') hs0) ?_
  rintro ⟨br, offr, x1, k1, x2, k2, x3, n3, k3, x4, n4, k4, x5, k5, x6, k6, x7, n7, k7, rfl, hd0, hn3, g0⟩
  refine st_know (fun w' hw' => RunsV.at (hshs _ _ _ _ (by exact rL_) hw') hs1) ?_
  rintro ⟨br', offr', y1, l1, y2, l2, y3, m3, l3, y4, m4, l4, y5, l5, y6, l6, y7, m7, l7, ebr, hd1, hm3, g1⟩
  cases ebr
  have hsi : s1.items.length = 0 := by rw [f13]; rfl
  repeat' (first | ((with_reducible apply o_pick_t); exact rfl; exact decide_eq_true (by omega); exact rfl; exact rfl) | ((with_reducible apply g_run); exact rfl; exact decide_eq_true (by omega)) | ((with_reducible apply o_idx (m := 0)); infer_instance; infer_instance; exact rfl; exact rfl; exact rfl; exact rfl; omega) | ((with_reducible apply o_idx (m := 1)); infer_instance; infer_instance; exact rfl; exact rfl; exact rfl; exact rfl; omega) | ((with_reducible apply o_ldP); infer_instance; exact rfl; (intro w' hw'; first | exact SV.cell (hshs _ _ _ _ (by exact rL_) hw').1 hd0 (g0 _ _ rfl) | exact SV.cell (hshs _ _ _ _ (by exact rL_) hw').1 hd1 (g1 _ _ rfl)); exact rfl) | ((first | ((with_reducible apply o_call_pure (f := 36)); exact rfl) | ((with_reducible apply q_call_pure (f := 36)); exact rfl; kernel_rfl; exact rfl; exact sJ_)); exact eV_; exact (fun w hw => atp_calls Plt.ex14_valid Plt.ex14_w w (ex_plV (t := 14) _ _ _ _ (by unfold exN; exact rL_) hw))) | ((with_reducible first | apply o_move | apply o_assign | apply o_faddr0 | apply o_not_d); exact rfl; exact rfl) | ((with_reducible first | apply o_faddr); exact rfl; exact rfl) | ((with_reducible apply gdo_load); first | refine wo_load (h := ?_) | refine wo_loadAll (h := ?_) | refine wo_loadC (h := ?_) | refine wo_ldV (h := ?_) | refine wo_ldF (h := ?_)) | ((with_reducible first | apply o_eql | apply o_neq | apply o_extract); exact rfl; exact rfl; exact rfl) | ((with_reducible apply o_len); infer_instance; exact rfl; exact rfl) | ((with_reducible first | apply c_seq | apply c_block | apply c_region | apply c_nil | apply c_ret | apply c_exit | apply c_skip)) | ((with_reducible first | apply e_then | apply e_then_ret | apply e_then_exit | apply e_in | apply e_in_ret | apply e_in_same)))
  apply r_body; apply res1 Try.results16; exact rV_; intro w' hw
  refine ⟨by simp, hw.below (show AO _ from by exact aO_)⟩
end Go.Proofs.Ytkhaemjoekfhiaa
namespace Go.Sx
open Go Go.RowKit
section
variable {P : Program} {n : Nat} {D : List Deferred} {w0 : World} {F : List (Nat × Value)} {L : List Ent} {J J1 : Made} {Φ : Specs} {X : Act → World → Prop} {kq : Nat} {ops : Array Oper}
variable {d : Tmp} {ty : TypeId} {pos : String} {af : Array Edge} {rest : List Oper}
theorem q_ldP {t : TypeId} {x : Operand} {b p : Nat} {v : Value} (hA : TA P t false) (hx : ev F x = some (.pointer (some ⟨b, p, none⟩))) (hΦ : Φ kq = none) (hJ : SubJ ((anc ops).getD kq 0) J1 J) (hc : ∀ w, Rep w0 w (ents J1 L) → w.cell? ⟨b, p, none⟩ = some v)
    (hd : Nat.ble (d + 1) n = true) (h : St n D w0 ((d, v) :: F) L (WQ P ops w0 L Φ X (kq + 1) J rest)) : St n D w0 F L (WQ P ops w0 L Φ X kq J (⟨some d, .load t x, ty, pos, af, none⟩ :: rest)) :=
  q_val rfl hd hΦ hJ (fun a w ha hw => by
    simp [execOp, ha.eval hx, Instr.loadAt, Instr.sureAddr, loadVar, TA.h (P := P) (t := t), hc w hw]) h
end
theorem SV.cell1 {α : Type} {w : World} {k m c b off i : Nat} {enc : α → List Value} {xs : List α} {x : α} {u : Value} (h : SV w k enc (.slice (some ⟨b, off, none⟩) m c) xs) (hx : xs[i]? = some x) (hj : (enc x)[0]? = some u) : w.cell? ⟨b, off + i * k, none⟩ = some u := h.cell (j := 0) hx hj
end Go.Sx
namespace Go.Proofs.Ytkhaemjoekfhiaa
open Go Go.Sx Go.RowKit
attribute [local irreducible] WL WC WQ WR WB WF QB St Exit.then Exit.inBlock Exit.noGoto bodyPost roundPost beginK YR RG BM Calls B AgainD MeetD
/-! ## a plant that built made, as it lies -/
theorem built_plv {p : Plt.Plant} {am ai ap : Option Addr} {cm ci cp : Nat} {ds : List MD} {ys : List PD} {NM NI NP NX : List Ent} {TM TI TP : TypeId} (hM : OW TM 5 encMD (.slice am p.ms.length cm) ds NM) (hI : OW TI 3 encItem (.slice ai p.items.length ci) p.items NI) (hP : OW TP 6 encPD (.slice ap p.passes.length cp) ys NP)
    (hl : ds.length = p.ms.length ∧ ys.length = p.passes.length) (hX : Shw NX (fun w => ∀ (i : Nat) (d : MD) (m : Plt.Mach), ds[i]? = some d → p.ms[i]? = some m → MachV w d m)) (hY : Shw NX (fun w => ∀ (i : Nat) (d : PD) (y : Plt.Pass), ys[i]? = some d → p.passes[i]? = some y → PassV w d y)) :
    Shw (NM ++ (NI ++ (NP ++ NX))) (fun w => PlV w ⟨(am, p.ms.length, cm), (ai, p.items.length, ci), (ap, p.passes.length, cp), ds, ys⟩ p) := fun w0 w L L0 hr hw =>
  ⟨(Shw.left (Shw.ow encMD_len hM)) w0 w L L0 hr hw, (Shw.right (Shw.left (Shw.ow encItem_len hI))) w0 w L L0 hr hw, (Shw.right (Shw.right (Shw.left (Shw.ow encPD_len hP)))) w0 w L L0 hr hw, hl.1, hl.2,
    (Shw.right (Shw.right (Shw.right hX))) w0 w L L0 hr hw, (Shw.right (Shw.right (Shw.right hY))) w0 w L L0 hr hw⟩
def builtψ (p : Plt.Plant) (v : Value) (N : List Ent) : Prop := ∃ am cm ai ci ap cp ds ys, v = .agg #[.slice am p.ms.length cm, .slice ai p.items.length ci, .slice ap p.passes.length cp] ∧
  Shw N (fun w => PlV w ⟨(am, p.ms.length, cm), (ai, p.items.length, ci), (ap, p.passes.length, cp), ds, ys⟩ p) ∧ ∀ x ∈ N, x.own = true
theorem built_is {v0 v1 v2 v3 : Value} {x : Plt.Sk} {p : Plt.Plant} (hp : Plt.built x = p) (w : World) (h0 : SV w 1 encB v0 x.ms) (h1 : SV w 1 encB v1 x.shs) (h2 : SV w 1 encB v2 x.its) (h3 : SV w 1 encB v3 x.ps) :
    Calls Try.prog 10 #[.agg #[v0, v1, v2, v3]] w fun e w' => ∃ v N, e = .returned v ∧ builtψ p v N ∧ Rep w w' N ∧ ∀ x ∈ N, x.own = true := by
  subst hp
  refine (built_calls w h0 h1 h2 h3).mono fun e w' ⟨v, N, h1, h2, h3, h4⟩ => ⟨v, N, h1, ?_, h3, h4⟩
  obtain ⟨am, cm, ai, ci, ap, cp, ds, ys, NM, NI, NP, NX, hv, ⟨gM, gI, gP⟩, ⟨hN, oX⟩, hl, hMX, hPX⟩ := h2
  subst hN
  exact ⟨am, cm, ai, ci, ap, cp, ds, ys, hv, built_plv gM gI gP hl hMX hPX, h4⟩
/-- What the laws know of a plant that built made. -/
structure Nice (p : Plt.Plant) : Prop where
  valid : Plt.validF p = (0, 0)
  ms : 1 ≤ p.ms.length ∧ p.ms.length ≤ 3
  items : p.items.length ≤ 40
  passes : p.passes.length ≤ 6
theorem nice_built (x : Plt.Sk) : Nice (Plt.built x) :=
  ⟨Plt.built_valid x, Plt.bMs_len x, by show (Plt.bIs x).length ≤ 40; unfold Plt.bIs; rw [Plt.bIsN_len]; omega, by show (Plt.bAt (Plt.bMs x) (Plt.bIs x) x.ps (min x.ps.length 6)).2.length ≤ 6; rw [Plt.bAt_len]; omega⟩
/-- What a call of a law knows of one run. -/
theorem run_slices {p : Plt.Plant} (hc : Plt.Calm p) {i : Nat} {y : Plt.Pass} {r : Plt.Run} (hy : p.passes[i]? = some y) (hr : (Plt.playF p)[i]? = some r) : r.slices.length ≤ 200 ∧ ∀ s ∈ r.slices, 0 ≤ s.1 ∧ s.1 ≤ s.2 ∧ s.2 ≤ 1051898399 := by
  have h := Plt.runF_slices (stops := Plt.stopsF p.items) (hc.job i y hy)
  have hg := Plt.playF_get hy
  rw [hr] at hg
  rw [← Option.some.inj hg] at h
  exact h
end Go.Proofs.Ytkhaemjoekfhiaa
namespace Go.Sx.Plt
/-! ## the last run that has sorted an item -/
def lastI : Option Nat → Int
  | none => -1
  | some k => k
/-- The same, after the first n items of run k. -/
def keepsF (p : Plant) (x t : Int) (k : Nat) (r : Run) (n : Nat) : Int := if x ∈ r.items.take n ∧ sortedAt p x t k = true then (k : Int) else lastI (lastF p x t k)
end Go.Sx.Plt
namespace Go.Sx.Plt
open Go.Proofs.Ytkhaemjoekfhiaa (mslF_keys psF tkF psF_snoc tkF_snoc)
/-- The stacker of a stop; -1 if it has none, or the item is not read. -/
def toF (l : List Row) (stop : Int) (b : Bool) : Int := if b = true then (asF stop (tableF l)).getD (-1) else -1
theorem Ran.mem {p : Plant} (hv : Valid p) {i : Nat} {y : Pass} (hy : p.passes[i]? = some y) {m : Mach} (hm : asF y.mach (mslF p.ms) = some (m.caps.length : Int)) {r : Run} {ready : Int} (hc : Ran p (hallAt p i) m y r ready) : (∀ x ∈ r.items, x ∈ p.items.map Item.id) ∧ r.items.Nodup ∧ r.items.length ≤ 2000 := by
  have e := (takeSrc_spec hc.take).1
  rw [List.nil_append] at e
  obtain ⟨_, h1, h2⟩ := hv.feeds (Inv.all hv i) hy hm e
  exact ⟨h1, h2, by rw [hc.items hv hy]; exact hv.taken_len hy⟩
theorem Ran.fin_bd {p : Plant} (hv : Valid p) {i : Nat} {y : Pass} (hy : p.passes[i]? = some y) {m : Mach} (hm : rightM m) {r : Run} {ready : Int} (hc : Ran p (hallAt p i) m y r ready) : (0 ≤ ready ∧ ready ≤ 1051898399) ∧ 0 ≤ r.fin ∧ r.fin ≤ 1051898399 := by
  have hrd := (Inv.all hv i).ready (hv.pok i y hy).1.2.2 hc.take
  refine ⟨hrd, (Inv.all hv i).fin (start := r.start) (sl := r.slices) hv hy hm hc.take ?_⟩
  by_cases hne : r.items = []
  · exact .inl ⟨hne, by rw [hc.slices, if_pos hne], by rw [hc.start, if_pos hne], by rw [hc.fin, if_pos hne]⟩
  · have hsl := hc.slices
    have hst := hc.start
    have hfi := hc.fin
    rw [if_neg hne] at hsl hst hfi
    have hsp := span_min (rel := ready) (l := m.shifts) (need_nonneg (n := r.items.length) hm.2.1.1)
    have he := hc.enough
    have hn1 : 1 ≤ needOf r.items.length m.rate := by
      have := List.length_pos_iff.2 hne
      have := hm.2.1.1
      unfold needOf
      exact Int.le_ediv_of_mul_le (by omega) (by omega)
    refine .inr ⟨hne, hsl, fun h0 => ?_, by rw [hsl, hsp]; omega, hst, hfi⟩
    rw [← hsl, h0, spanF] at hsp
    omega
end Go.Sx.Plt
namespace Go.Proofs.Ytkhaemjoekfhiaa
open Go Go.Sx Go.RowKit
attribute [local irreducible] WL WC WQ WR WB WF QB St Exit.then Exit.inBlock Exit.noGoto bodyPost roundPost beginK YR RG BM Calls B AgainD MeetD
theorem PassV.eqs {w : World} {d : PD} {y : Plt.Pass} (h : PassV w d y) : ∃ x1 k1 x2 k2 x3 k3, d = ⟨y.id, y.mach, y.rel, (x1, y.src.length, k1), (x2, y.table.length, k2), (x3, y.unread.length, k3)⟩ := by
  obtain ⟨x1, k1, e1⟩ := h.src.sd
  obtain ⟨x2, k2, e2⟩ := h.table.sd
  obtain ⟨x3, k3, e3⟩ := h.unread.sd
  refine ⟨x1, k1, x2, k2, x3, k3, ?_⟩
  obtain ⟨a, b, c, i1, i2, i3⟩ := d
  obtain rfl : a = y.id := h.id
  obtain rfl : b = y.mach := h.mach
  obtain rfl : c = y.rel := h.rel
  dsimp only at e1 e2 e3
  rw [e1, e2, e3]
theorem PlV.passAt {w : World} {m i : SD} {ap : Option Addr} {n cp k : Nat} {ds : List MD} {ys : List PD} {p : Plt.Plant} {y : Plt.Pass} (h : PlV w ⟨m, i, (ap, n, cp), ds, ys⟩ p) (hy : p.passes[k]? = some y) : ∃ bP oP x1 k1 x2 k2 x3 k3, ap = some ⟨bP, oP, none⟩ ∧
    ys[k]? = some ⟨y.id, y.mach, y.rel, (x1, y.src.length, k1), (x2, y.table.length, k2), (x3, y.unread.length, k3)⟩ ∧
    ∀ (j : Nat) (u : Value), ([.int .i64 y.id, .int .i64 y.mach, .int .i64 y.rel, .slice x1 y.src.length k1, .slice x2 y.table.length k2, .slice x3 y.unread.length k3] : List Value)[j]? = some u → (encPD ⟨y.id, y.mach, y.rel, (x1, y.src.length, k1), (x2, y.table.length, k2), (x3, y.unread.length, k3)⟩)[j]? = some u := by
  have hl := (List.getElem?_eq_some_iff.1 hy).1
  have hlp := h.lp
  dsimp only at hlp
  obtain ⟨d, hd⟩ : ∃ d, ys[k]? = some d := ⟨_, List.getElem?_eq_getElem (by omega)⟩
  obtain ⟨x1, k1, x2, k2, x3, k3, rfl⟩ := (h.pass k d y hd hy).eqs
  obtain ⟨bP, oP, e⟩ := SV.ptr h.ps hd
  exact ⟨bP, oP, x1, k1, x2, k2, x3, k3, e, hd, fun _ _ h => h⟩
theorem PlV.machAt {w : World} {i ap : SD} {am : Option Addr} {n cm k : Nat} {ds : List MD} {ys : List PD} {p : Plt.Plant} {m : Plt.Mach} (h : PlV w ⟨(am, n, cm), i, ap, ds, ys⟩ p) (hm : p.ms[k]? = some m) : ∃ bM oM x1 k1 x2 k2, am = some ⟨bM, oM, none⟩ ∧
    ds[k]? = some ⟨m.id, m.sweeps, m.rate, (x1, m.caps.length, k1), (x2, m.shifts.length, k2)⟩ ∧
    ∀ (j : Nat) (u : Value), ([.int .i64 m.id, .int .i64 m.sweeps, .int .i64 m.rate, .slice x1 m.caps.length k1, .slice x2 m.shifts.length k2] : List Value)[j]? = some u → (encMD ⟨m.id, m.sweeps, m.rate, (x1, m.caps.length, k1), (x2, m.shifts.length, k2)⟩)[j]? = some u := by
  have hl := (List.getElem?_eq_some_iff.1 hm).1
  have hlm := h.lm
  dsimp only at hlm
  obtain ⟨d, hd⟩ : ∃ d, ds[k]? = some d := ⟨_, List.getElem?_eq_getElem (by omega)⟩
  obtain ⟨x1, k1, x2, k2, rfl⟩ := (h.machs k d m hd hm).eqs
  obtain ⟨bM, oM, e⟩ := SV.ptr h.ms hd
  exact ⟨bM, oM, x1, k1, x2, k2, e, hd, fun _ _ h => h⟩
theorem machine_is {q : PlD} {p : Plt.Plant} {k : Nat} {m : Plt.Mach} {id : Int} {x1 x2 : Option Addr} {k1 k2 : Nat} (hn : (p.ms.map Plt.Mach.id).Nodup) (hid : m.id = id) (hd : q.ds[k]? = some ⟨m.id, m.sweeps, m.rate, (x1, m.caps.length, k1), (x2, m.shifts.length, k2)⟩) (hm : p.ms[k]? = some m) (w : World) (h : PlV w q p) :
    Calls Try.prog 17 #[plV q, .int .i64 id] w fun e w' => e = .returned (.agg #[.int .i64 m.id, .int .i64 m.sweeps, .int .i64 m.rate, .slice x1 m.caps.length k1, .slice x2 m.shifts.length k2]) ∧ Below w.heap.size w w' := by
  subst hid; exact machine_calls hn hd hm w h
end Go.Proofs.Ytkhaemjoekfhiaa
namespace Go.Sx.Plt
open Go.Proofs.Ytkhaemjoekfhiaa (mslF_keys psF tkF psF_snoc tkF_snoc)
/-! ## where slices end -/
def endF (e : Int) (l : List (Int × Int)) : Int := match l.getLast? with
  | some s => s.2
  | none => e
theorem endF_nil (e : Int) : endF e [] = e := rfl
theorem endF_snoc (e : Int) (l : List (Int × Int)) (s : Int × Int) : endF e (l ++ [s]) = s.2 := by simp [endF]
theorem endF_last (e : Int) {l : List (Int × Int)} (h : l ≠ []) : endF e l = (l.getLastD (0, 0)).2 := by
  unfold endF
  rw [List.getLastD_eq_getLast?]
  cases hl : l.getLast? with
  | none => rw [List.getLast?_eq_none_iff] at hl; exact (h hl).elim
  | some s => rfl
theorem chain_at : ∀ {l : List (Int × Int)} {e : Int} {j : Nat} {s : Int × Int}, Chain e l → l[j]? = some s → endF e (l.take j) ≤ s.1 ∧ s.1 < s.2
  | [], _, _, _, _, h => by simp at h
  | a :: r, e, 0, s, hc, h => by
    simp at h; subst h
    rw [List.take_zero, endF_nil]; exact hc.1
  | a :: r, e, j + 1, s, hc, h => by
    have h' : r[j]? = some s := by simpa using h
    have ih := chain_at hc.2 h'
    rw [List.take_succ_cons]
    have : endF e (a :: r.take j) = endF a.2 (r.take j) := by
      unfold endF
      rw [List.getLast?_cons]
      cases (r.take j).getLast? <;> rfl
    rw [this]; exact ih
theorem chain_end : ∀ {l : List (Int × Int)} {e : Int}, Chain e l → e ≤ endF e l
  | [], e, _ => by rw [endF_nil]; omega
  | a :: r, e, hc => by
    have ih := chain_end hc.2
    have : endF e (a :: r) = endF a.2 r := by
      unfold endF
      rw [List.getLast?_cons]
      cases r.getLast? <;> rfl
    rw [this]
    have := hc.1
    omega
/-- What the slices of a run are. -/
theorem Ran.chain {p : Plant} {h : Hall} {m : Mach} {y : Pass} {r : Run} {ready : Int} (hc : Ran p h m y r ready) (hm : rightM m) : Chain ready r.slices ∧ (∀ s ∈ r.slices, ∃ x ∈ m.shifts, x.f ≤ s.1 ∧ s.2 ≤ x.t) ∧ spanF r.slices = needOf r.items.length m.rate ∧ r.fin = endF ready r.slices ∧ ((r.slices = [] ∧ r.start = ready) ∨ ∃ s, r.slices[0]? = some s ∧ r.start = s.1) ∧ ready ≤ r.start := by
  have hw := (right_shifts hm).2
  have hn0 := need_nonneg (n := r.items.length) hm.2.1.1
  have hch := Chain.mono (show ready ≤ max 0 ready by omega) (slices_chain (rel := ready) hn0 hw)
  have hsl := hc.slices
  have hst := hc.start
  have hfi := hc.fin
  by_cases hne : r.items = []
  · rw [if_pos hne] at hsl hst hfi
    have hz : needOf r.items.length m.rate = 0 := by
      rw [hne]
      unfold needOf
      have := hm.2.1.1
      exact Int.ediv_eq_zero_of_lt (by simp; omega) (by simp; omega)
    rw [hsl, hz]
    exact ⟨trivial, by simp, rfl, by rw [endF_nil]; exact hfi, .inl ⟨rfl, hst⟩, by omega⟩
  · rw [if_neg hne] at hsl hst hfi
    have hsp := span_min (rel := ready) (l := m.shifts) hn0
    have he := hc.enough
    have hn1 : 1 ≤ needOf r.items.length m.rate := by
      have := List.length_pos_iff.2 hne
      have := hm.2.1.1
      unfold needOf
      exact Int.le_ediv_of_mul_le (by omega) (by omega)
    rw [← hsl] at hsp hch
    have hnn : r.slices ≠ [] := fun h0 => by rw [h0, spanF] at hsp; omega
    obtain ⟨s, l, e⟩ := List.exists_cons_of_ne_nil hnn
    have h0 : r.slices[0]? = some s := by rw [e]; rfl
    have hs1 : r.start = s.1 := by rw [hst, e]; rfl
    refine ⟨hch, fun s hs => ?_, by rw [hsp]; omega, by rw [endF_last _ hnn]; exact hfi, .inr ⟨s, h0, hs1⟩, ?_⟩
    · rw [hsl] at hs
      exact slices_inside hn0 s hs
    · have := chain_at hch h0
      rw [List.take_zero, endF_nil] at this
      omega
theorem Ran.fin_ge {p : Plant} {h : Hall} {m : Mach} {y : Pass} {r : Run} {ready : Int} (hc : Ran p h m y r ready) (hm : rightM m) : ready ≤ r.fin := by
  obtain ⟨h1, _, _, h4, _⟩ := hc.chain hm
  rw [h4]; exact chain_end h1
/-! ## when passes end -/
/-- The end of run j. -/
def finF (p : Plant) (j : Nat) : Int := match (playF p)[j]? with
  | some r => r.fin
  | none => -1
theorem finF_at {p : Plant} {j : Nat} {r : Run} (h : (playF p)[j]? = some r) : finF p j = r.fin := by unfold finF; rw [h]
theorem ends_spec {p : Plant} (hv : Valid p) : ∀ (i : Nat) (id e : Int), asF id (hallAt p i).ends = some e ↔ ∃ (j : Nat) (y : Pass), j < i ∧ p.passes[j]? = some y ∧ y.id = id ∧ finF p j = e ∧ 0 ≤ e
  | 0, id, e => by
    rw [hallAt_zero]
    simp [hall0, asF]
  | i + 1, id, e => by
    have ih := ends_spec hv i id e
    cases hy : p.passes[i]? with
    | none =>
      rw [hall_stay hy, ih]
      constructor
      · rintro ⟨j, y, h1, h2⟩; exact ⟨j, y, by omega, h2⟩
      · rintro ⟨j, y, h1, h2, h3⟩
        by_cases hj : j = i
        · subst hj; rw [hy] at h2; cases h2
        · exact ⟨j, y, by omega, h2, h3⟩
    | some y =>
      obtain ⟨r, hr⟩ := Valid.get hy
      obtain ⟨k, m, _, _, hmr, hre, hh, _, hc⟩ := hv.run hy hr
      have hfr := finF_at hr
      rcases hc with hc | ⟨ready, hc⟩
      · have hf : finF p i = -1 := by rw [hfr, hc.eq]; rfl
        rw [hh, hc.hall, ih]
        constructor
        · rintro ⟨j, y', h1, h2⟩; exact ⟨j, y', by omega, h2⟩
        · rintro ⟨j, y', h1, h2, h3, h4, h5⟩
          by_cases hj : j = i
          · subst hj; omega
          · exact ⟨j, y', by omega, h2, h3, h4, h5⟩
      · have hfb := (hc.fin_bd hv hy hmr).2
        rw [hh, hc.hall]
        dsimp only
        rw [asF_put]
        by_cases hid : y.id = id
        · rw [if_pos hid]
          constructor
          · intro he; exact ⟨i, y, by omega, hy, hid, by rw [hfr]; exact Option.some.inj he, by have := Option.some.inj he; omega⟩
          · rintro ⟨j, y', h1, h2, h3, h4, h5⟩
            by_cases hj : j = i
            · subst hj; rw [← h4, hfr]
            · exact (hv.new hy ⟨j, y', by omega, h2, by rw [h3, hid]⟩).elim
        · rw [if_neg hid, ih]
          constructor
          · rintro ⟨j, y', h1, h2⟩; exact ⟨j, y', by omega, h2⟩
          · rintro ⟨j, y', h1, h2, h3, h4⟩
            by_cases hj : j = i
            · subst hj; rw [hy] at h2; cases h2; exact (hid h3).elim
            · exact ⟨j, y', by omega, h2, h3, h4⟩
theorem takeSrc_max {h : Hall} : ∀ {l : List (Int × Int)} {r0 ready : Int} {acc items : List Int}, takeSrc h r0 acc l = some (ready, items) → r0 ≤ ready ∧ (∀ s ∈ l, s.1 ≠ 0 → ∃ e, asF s.1 h.ends = some e ∧ e ≤ ready) ∧ (ready = r0 ∨ ∃ s ∈ l, s.1 ≠ 0 ∧ asF s.1 h.ends = some ready)
  | [], r0, ready, acc, items, hh => by
    simp only [takeSrc, Option.some.injEq, Prod.mk.injEq] at hh
    exact ⟨by omega, by simp, .inl hh.1.symm⟩
  | (s1, s2) :: l, r0, ready, acc, items, hh => by
    rw [takeSrc] at hh
    by_cases h0 : s1 = 0
    · subst h0
      rw [if_neg (by simp)] at hh
      obtain ⟨h1, h2, h3⟩ := takeSrc_max hh
      refine ⟨h1, fun s hs hs0 => ?_, h3.imp id fun ⟨s, hs, h⟩ => ⟨s, List.mem_cons_of_mem _ hs, h⟩⟩
      rcases List.mem_cons.1 hs with rfl | hs
      · exact (hs0 rfl).elim
      · exact h2 s hs hs0
    · rw [if_pos h0] at hh
      cases he : asF s1 h.ends with
      | none => simp only [he] at hh; cases hh
      | some e =>
        simp only [he] at hh
        obtain ⟨h1, h2, h3⟩ := takeSrc_max hh
        have m1 : r0 ≤ max r0 e := Int.le_max_left r0 e
        have m2 : e ≤ max r0 e := Int.le_max_right r0 e
        refine ⟨Int.le_trans m1 h1, fun s hs hs0 => ?_, ?_⟩
        · rcases List.mem_cons.1 hs with rfl | hs
          · exact ⟨e, he, Int.le_trans m2 h1⟩
          · exact h2 s hs hs0
        · rcases h3 with h3 | ⟨s, hs, h3⟩
          · by_cases hm : e ≤ r0
            · exact .inl (by rw [h3]; exact Int.max_eq_left hm)
            · exact .inr ⟨(s1, s2), List.mem_cons_self, h0, by rw [he, h3]; congr 1; exact (Int.max_eq_right (by omega)).symm⟩
          · exact .inr ⟨s, List.mem_cons_of_mem _ hs, h3⟩
theorem takeSrc_all {h : Hall} : ∀ {l : List (Int × Int)} (r0 : Int) (acc : List Int), (∀ s ∈ l, s.1 ≠ 0 → ∃ e, asF s.1 h.ends = some e) → ∃ q, takeSrc h r0 acc l = some q
  | [], r0, acc, _ => ⟨_, rfl⟩
  | (s1, s2) :: l, r0, acc, hh => by
    rw [takeSrc]
    by_cases h0 : s1 = 0
    · subst h0
      rw [if_neg (by simp)]
      exact takeSrc_all _ _ fun s hs => hh s (List.mem_cons_of_mem _ hs)
    · rw [if_pos h0]
      obtain ⟨e, he⟩ := hh (s1, s2) List.mem_cons_self h0
      dsimp only at he
      simp only [he]
      exact takeSrc_all _ _ fun s hs => hh s (List.mem_cons_of_mem _ hs)
theorem free_spec {p : Plant} (hv : Valid p) : ∀ (i : Nat) (mid : Int), 0 ≤ (asF mid (hallAt p i).free).getD 0 ∧ (∀ (j : Nat) (y : Pass), j < i → p.passes[j]? = some y → y.mach = mid → finF p j ≤ (asF mid (hallAt p i).free).getD 0) ∧
    ((asF mid (hallAt p i).free).getD 0 = 0 ∨ ∃ (j : Nat) (y : Pass), j < i ∧ p.passes[j]? = some y ∧ y.mach = mid ∧ finF p j = (asF mid (hallAt p i).free).getD 0)
  | 0, mid => by
    rw [hallAt_zero]
    refine ⟨by simp [hall0, asF], fun j y h => by omega, .inl (by simp [hall0, asF])⟩
  | i + 1, mid => by
    obtain ⟨a1, a2, a3⟩ := free_spec hv i mid
    cases hy : p.passes[i]? with
    | none =>
      rw [hall_stay hy]
      refine ⟨a1, fun j y h1 h2 h3 => ?_, a3.imp id fun ⟨j, y, h1, h2⟩ => ⟨j, y, by omega, h2⟩⟩
      by_cases hj : j = i
      · subst hj; rw [hy] at h2; cases h2
      · exact a2 j y (by omega) h2 h3
    | some y =>
      obtain ⟨r, hr⟩ := Valid.get hy
      obtain ⟨k, m, hmk, hmid, hmr, hre, hh, _, hc⟩ := hv.run hy hr
      have hfr := finF_at hr
      rcases hc with hc | ⟨ready, hc⟩
      · have hf : finF p i = -1 := by rw [hfr, hc.eq]; rfl
        rw [hh, hc.hall]
        refine ⟨a1, fun j y' h1 h2 h3 => ?_, a3.imp id fun ⟨j, y, h1, h2⟩ => ⟨j, y, by omega, h2⟩⟩
        by_cases hj : j = i
        · subst hj; omega
        · exact a2 j y' (by omega) h2 h3
      · have hfb := (hc.fin_bd hv hy hmr).2
        have hge := hc.fin_ge hmr
        have hrd := (takeSrc_max hc.take).1
        rw [hh, hc.hall]
        dsimp only
        rw [asF_put]
        by_cases hid : m.id = mid
        · rw [if_pos hid, Option.getD_some]
          rw [hid] at hrd
          refine ⟨hfb.1, fun j y' h1 h2 h3 => ?_, .inr ⟨i, y, by omega, hy, by rw [← hmid]; exact hid, hfr⟩⟩
          by_cases hj : j = i
          · subst hj; omega
          · have := a2 j y' (by omega) h2 h3; omega
        · rw [if_neg hid]
          refine ⟨a1, fun j y' h1 h2 h3 => ?_, a3.imp id fun ⟨j, y, h1, h2⟩ => ⟨j, y, by omega, h2⟩⟩
          by_cases hj : j = i
          · subst hj; rw [hy] at h2; cases h2; exact (hid (by rw [hmid]; exact h3)).elim
          · exact a2 j y' (by omega) h2 h3
/-! ## the law's words -/
def takesF (src : List (Int × Int)) (id : Int) : Bool := src.any fun s => s.1 = id
theorem takesF_snoc {src : List (Int × Int)} {n : Nat} {s : Int × Int} (id : Int) (h : src[n]? = some s) : takesF (src.take (n + 1)) id = (takesF (src.take n) id || decide (s.1 = id)) := by
  rw [Go.Proofs.Ytkhaemjoekfhiaa.take_snoc h]; simp [takesF]
/-- When a pass is ready by the runs of the first j passes, and whether what it takes was run. -/
def rdF (p : Plant) (y : Pass) : Nat → Int × Bool
  | 0 => (y.rel, true)
  | j + 1 => match p.passes[j]? with
    | some z => (if takesF y.src z.id = true ∨ z.mach = y.mach then max (rdF p y j).1 (finF p j) else (rdF p y j).1, (rdF p y j).2 && (!takesF y.src z.id || decide (0 ≤ finF p j)))
    | none => rdF p y j
theorem rd_spec {p : Plant} {y : Pass} : ∀ j, y.rel ≤ (rdF p y j).1 ∧ (∀ (i : Nat) (z : Pass), i < j → p.passes[i]? = some z → takesF y.src z.id = true ∨ z.mach = y.mach → finF p i ≤ (rdF p y j).1) ∧
    ((rdF p y j).1 = y.rel ∨ ∃ (i : Nat) (z : Pass), i < j ∧ p.passes[i]? = some z ∧ (takesF y.src z.id = true ∨ z.mach = y.mach) ∧ finF p i = (rdF p y j).1) ∧
    ((rdF p y j).2 = true ↔ ∀ (i : Nat) (z : Pass), i < j → p.passes[i]? = some z → takesF y.src z.id = true → 0 ≤ finF p i)
  | 0 => ⟨by simp [rdF], fun i z h => by omega, .inl rfl, by simp [rdF]⟩
  | j + 1 => by
    obtain ⟨a1, a2, a3, a4⟩ := rd_spec (p := p) (y := y) j
    rw [rdF]
    cases hz : p.passes[j]? with
    | none =>
      dsimp only
      refine ⟨a1, fun i z h1 h2 h3 => ?_, a3.imp id fun ⟨i, z, h1, h2⟩ => ⟨i, z, by omega, h2⟩, a4.trans ⟨fun h i z h1 h2 h3 => ?_, fun h i z h1 => h i z (by omega)⟩⟩
      · by_cases hi : i = j
        · subst hi; rw [hz] at h2; cases h2
        · exact a2 i z (by omega) h2 h3
      · by_cases hi : i = j
        · subst hi; rw [hz] at h2; cases h2
        · exact h i z (by omega) h2 h3
    | some z =>
      dsimp only
      have hok : ((rdF p y j).2 && (!takesF y.src z.id || decide (0 ≤ finF p j))) = true ↔ ∀ (i : Nat) (z : Pass), i < j + 1 → p.passes[i]? = some z → takesF y.src z.id = true → 0 ≤ finF p i := by
        rw [Bool.and_eq_true, a4]
        constructor
        · rintro ⟨h1, h2⟩ i z' h3 h4 h5
          by_cases hi : i = j
          · subst hi; rw [hz] at h4; cases h4; rw [h5] at h2; simpa using h2
          · exact h1 i z' (by omega) h4 h5
        · intro h
          refine ⟨fun i z' h1 => h i z' (by omega), ?_⟩
          cases ht : takesF y.src z.id with
          | false => rfl
          | true => simpa using h j z (by omega) hz ht
      by_cases hc : takesF y.src z.id = true ∨ z.mach = y.mach
      · rw [if_pos hc]
        refine ⟨by omega, fun i z' h1 h2 h3 => ?_, ?_, hok⟩
        · by_cases hi : i = j
          · subst hi; omega
          · have := a2 i z' (by omega) h2 h3; omega
        · by_cases hm : finF p j ≤ (rdF p y j).1
          · rcases a3 with a3 | ⟨i, z', h1, h2, h3, h4⟩
            · exact .inl (by omega)
            · exact .inr ⟨i, z', by omega, h2, h3, by omega⟩
          · exact .inr ⟨j, z, by omega, hz, hc, by omega⟩
      · rw [if_neg hc]
        refine ⟨a1, fun i z' h1 h2 h3 => ?_, a3.imp id fun ⟨i, z, h1, h2⟩ => ⟨i, z, by omega, h2⟩, hok⟩
        by_cases hi : i = j
        · subst hi; rw [hz] at h2; cases h2; exact (hc h3).elim
        · exact a2 i z' (by omega) h2 h3
theorem fin_bd {p : Plant} (hv : Valid p) (j : Nat) : -1 ≤ finF p j ∧ finF p j ≤ 1051898399 := by
  unfold finF
  cases hr : (playF p)[j]? with
  | none => dsimp only; omega
  | some r =>
    dsimp only
    obtain ⟨y, hy⟩ : ∃ y, p.passes[j]? = some y := ⟨_, List.getElem?_eq_getElem (by have := (List.getElem?_eq_some_iff.1 hr).1; rw [playF_len] at this; exact this)⟩
    obtain ⟨k, m, _, _, hmr, _, _, _, hc⟩ := hv.run hy hr
    rcases hc with hc | ⟨ready, hc⟩
    · rw [hc.eq]; show -1 ≤ (-1 : Int) ∧ (-1 : Int) ≤ 1051898399; omega
    · have := (hc.fin_bd hv hy hmr).2; omega
theorem rd_bd {p : Plant} (hv : Valid p) {k : Nat} {y : Pass} (hy : p.passes[k]? = some y) (j : Nat) : 0 ≤ (rdF p y j).1 ∧ (rdF p y j).1 ≤ 1051898399 := by
  have hr := (hv.pok k y hy).1.2.2
  obtain ⟨a1, _, a3, _⟩ := rd_spec (p := p) (y := y) j
  refine ⟨by omega, ?_⟩
  rcases a3 with a3 | ⟨i, z, _, _, _, h⟩
  · omega
  · have := fin_bd hv i; omega
theorem takes_mem {src : List (Int × Int)} {id : Int} : takesF src id = true ↔ ∃ s ∈ src, s.1 = id := by simp [takesF]
/-- What takeSrc says is what the law says. -/
theorem ready_ok {p : Plant} (hv : Valid p) {k : Nat} {y : Pass} (hy : p.passes[k]? = some y) : ((rdF p y k).2 = true ↔ ∃ q, takeSrc (hallAt p k) (max y.rel ((asF y.mach (hallAt p k).free).getD 0)) [] y.src = some q) ∧ ∀ ready items, takeSrc (hallAt p k) (max y.rel ((asF y.mach (hallAt p k).free).getD 0)) [] y.src = some (ready, items) → (rdF p y k).1 = ready := by
  obtain ⟨a1, a2, a3, a4⟩ := rd_spec (p := p) (y := y) k
  obtain ⟨f1, f2, f3⟩ := free_spec hv k y.mach
  have hrel := (hv.pok k y hy).1.2.2
  have hidn : ∀ (j : Nat) (z : Pass), p.passes[j]? = some z → z.id ≠ 0 := fun j z hz => by
    have := (hv.pok j z hz).1.2.1
    unfold idOk at this
    omega
  refine ⟨a4.trans ⟨fun h => takeSrc_all _ _ fun s hs h0 => ?_, ?_⟩, ?_⟩
  · rcases ((hv.src hy).2 s hs).2 with h1 | ⟨j, z, h1, h2, h3⟩
    · exact (h0 h1).elim
    · exact ⟨finF p j, (ends_spec hv k s.1 _).2 ⟨j, z, h1, h2, h3, rfl, h j z h1 h2 (takes_mem.2 ⟨s, hs, h3.symm⟩)⟩⟩
  · rintro ⟨⟨ready, items⟩, ht⟩ j z h1 h2 h3
    obtain ⟨s, hs, e⟩ := takes_mem.1 h3
    obtain ⟨_, g2, _⟩ := takeSrc_max ht
    obtain ⟨e', he, _⟩ := g2 s hs (by rw [e]; exact hidn j z h2)
    obtain ⟨j', z', h1', h2', h3', h4', h5'⟩ := (ends_spec hv k s.1 e').1 he
    have hjj : j = j' := by
      rcases Nat.lt_trichotomy j j' with hlt | heq | hlt
      · exact (hv.new h2' ⟨j, z, hlt, h2, by rw [h3', e]⟩).elim
      · exact heq
      · exact (hv.new h2 ⟨j', z', hlt, h2', by rw [h3', e]⟩).elim
    subst hjj
    omega
  · intro ready items ht
    obtain ⟨g1, g2, g3⟩ := takeSrc_max ht
    have hle : (rdF p y k).1 ≤ ready := by
      rcases a3 with a3 | ⟨i, z, h1, h2, h3, h4⟩
      · omega
      · rcases h3 with h3 | h3
        · obtain ⟨s, hs, e⟩ := takes_mem.1 h3
          obtain ⟨e', he, hle⟩ := g2 s hs (by rw [e]; exact hidn i z h2)
          obtain ⟨j', z', h1', h2', h3', h4', h5'⟩ := (ends_spec hv k s.1 e').1 he
          have hjj : i = j' := by
            rcases Nat.lt_trichotomy i j' with hlt | heq | hlt
            · exact (hv.new h2' ⟨i, z, hlt, h2, by rw [h3', e]⟩).elim
            · exact heq
            · exact (hv.new h2 ⟨j', z', hlt, h2', by rw [h3', e]⟩).elim
          subst hjj
          omega
        · have := f2 i z h1 h2 h3; omega
    have hge : ready ≤ (rdF p y k).1 := by
      rcases g3 with g3 | ⟨s, hs, h0, he⟩
      · rcases f3 with f3 | ⟨j, z, h1, h2, h3, h4⟩
        · omega
        · have := a2 j z h1 h2 (.inr h3); omega
      · obtain ⟨j', z', h1', h2', h3', h4', h5'⟩ := (ends_spec hv k s.1 ready).1 he
        have := a2 j' z' h1' h2' (.inl (takes_mem.2 ⟨s, hs, h3'.symm⟩))
        omega
    omega
/-! ## working time inside a shift -/
theorem wrongS_bd : ∀ {l : List Sh} {b : Int} {i : Nat}, 0 ≤ b → wrongS b i l = none → ∀ s ∈ l, 0 ≤ s.f ∧ s.f < s.t ∧ s.t ≤ 1051898399
  | [], _, _, _, _, s, hs => by simp at hs
  | a :: r, b, i, hb, h, s, hs => by
    rw [wrongS] at h
    split at h
    · rename_i ha
      unfold Sh.ok at ha
      rcases List.mem_cons.1 hs with rfl | hs
      · omega
      · exact wrongS_bd (by omega) h s hs
    · cases h
def insideF (sf su : Int) (l : List Sh) : Bool := l.any fun h => decide (h.f ≤ sf ∧ su ≤ h.t)
theorem insideF_snoc {sf su : Int} {l : List Sh} {n : Nat} {h : Sh} (hx : l[n]? = some h) : insideF sf su (l.take (n + 1)) = (insideF sf su (l.take n) || decide (h.f ≤ sf ∧ su ≤ h.t)) := by
  rw [Go.Proofs.Ytkhaemjoekfhiaa.take_snoc hx]; simp [insideF]
theorem insideF_yes {sf su : Int} {l : List Sh} (h : ∃ x ∈ l, x.f ≤ sf ∧ su ≤ x.t) : insideF sf su l = true := by
  obtain ⟨x, hx, h1⟩ := h
  exact List.any_eq_true.2 ⟨x, hx, decide_eq_true h1⟩
theorem endF_bd {e M : Int} (he : 0 ≤ e ∧ e ≤ M) {l : List (Int × Int)} (h : ∀ s ∈ l, 0 ≤ s.2 ∧ s.2 ≤ M) : 0 ≤ endF e l ∧ endF e l ≤ M := by
  rcases List.eq_nil_or_concat l with rfl | ⟨l', s, rfl⟩
  · exact he
  · rw [List.concat_eq_append] at h ⊢
    rw [endF_snoc]
    exact h s (by simp)
end Go.Sx.Plt
namespace Go.Proofs.Ytkhaemjoekfhiaa
open Go Go.Sx Go.RowKit
section
variable {r : Option Nat} {P : Program} {n : Nat} {D : List Deferred} {w0 : World} {F : List (Nat × Value)} {L : List Ent} {Q : Exit → Act → World → Prop} {ops : Array Oper}
variable {d : Tmp} {ty : TypeId} {pos : String} {af : Array Edge} {rest : List Oper}
end
attribute [local irreducible] WL WC WQ WR WB WF QB St Exit.then Exit.inBlock Exit.noGoto bodyPost roundPost beginK YR RG BM Calls B AgainD MeetD
/-! ## PlantKeeps -/
end Go.Proofs.Ytkhaemjoekfhiaa
