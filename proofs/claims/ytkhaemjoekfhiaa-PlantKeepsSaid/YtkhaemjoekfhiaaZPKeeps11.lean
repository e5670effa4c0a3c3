/-
  PlantKeeps: whatever the plant in small numbers and the time, the law returns true, and its arguments read as they did. Conditions: none.
-/
import Derived.Test.YtkhaemjoekfhiaaZPKeeps3
import Derived.Test.YtkhaemjoekfhiaaZPKeeps10
import Derived.Test.YtkhaemjoekfhiaaZPKeeps9
import Derived.Test.YtkhaemjoekfhiaaZPKeeps2
set_option linter.unusedSimpArgs false
set_option linter.unusedVariables false
set_option linter.unusedSectionVars false
namespace Go.Sx.Plt
open Go.Proofs.Ytkhaemjoekfhiaa (mslF_keys psF tkF psF_snoc tkF_snoc)
theorem srcs_of {ps : List (Int × Int)} : ∀ {l tk : List (Int × Int)}, l.Nodup → (∀ s ∈ l, s ∉ tk ∧ srcOk ps s) → srcsOk ps tk l
  | [], _, _, _ => trivial
  | a :: r, tk, hn, h => by
    rw [List.nodup_cons] at hn
    obtain ⟨h1, h2⟩ := h a List.mem_cons_self
    refine ⟨⟨h2, h1⟩, srcs_of hn.2 fun s hs => ⟨fun hm => ?_, (h s (List.mem_cons_of_mem _ hs)).2⟩⟩
    rcases List.mem_append.1 hm with hm | hm
    · exact (h s (List.mem_cons_of_mem _ hs)).1 hm
    · simp at hm; subst hm; exact hn.1 hs
theorem rows_of {n : Int} : ∀ {l : List Row} {met : List Int}, (l.map Row.stop).Nodup → (∀ e ∈ l, e.stop ∉ met ∧ 0 ≤ e.st ∧ e.st < n) → rowsOk n met l
  | [], _, _, _ => trivial
  | a :: r, met, hn, h => by
    rw [List.map_cons, List.nodup_cons] at hn
    refine ⟨h a List.mem_cons_self, rows_of hn.2 fun s hs => ⟨fun hm => ?_, (h s (List.mem_cons_of_mem _ hs)).2⟩⟩
    rcases List.mem_append.1 hm with hm | hm
    · exact (h s (List.mem_cons_of_mem _ hs)).1 hm
    · simp at hm; exact hn.1 (List.mem_map.2 ⟨s, hs, hm⟩)
theorem bPick_perm (n : Nat) : ∀ (l : List (Int × Int)) (k : Nat) (a b : List (Int × Int)), ((bPick n k a b l).1 ++ (bPick n k a b l).2).Perm (a ++ b ++ l)
  | [], k, a, b => by simp [bPick]
  | s :: r, k, a, b => by
    rw [bPick]
    split
    · refine (bPick_perm n r (k + 1) _ _).trans ?_
      rw [List.append_assoc a [s], List.append_assoc a b, List.append_assoc a]
      refine List.Perm.append_left a ?_
      rw [List.singleton_append, List.cons_append]
      exact List.perm_middle.symm
    · refine (bPick_perm n r (k + 1) _ _).trans ?_
      rw [List.append_assoc, List.append_assoc, List.append_assoc, List.singleton_append]
theorem bTab_mem {n c m : Nat} {e : Row} (h : e ∈ bTab n c m) : ∃ s, s < m ∧ s ≠ n % 16 ∧ e = ⟨s, (((n + s) % c : Nat) : Int)⟩ := by
  obtain ⟨s, hs, rfl⟩ := List.mem_map.1 h
  rw [List.mem_filter] at hs
  exact ⟨s, List.mem_range.1 hs.1, by simpa using hs.2, rfl⟩
theorem bTab_len (n c m : Nat) : (bTab n c m).length ≤ m := by
  unfold bTab
  rw [List.length_map]
  exact Nat.le_trans (List.length_filter_le _ _) (by simp)
theorem bUn_len (its : List Item) (n i m : Nat) : (bUn its n i m).length ≤ m := by
  unfold bUn
  rw [List.length_map]
  exact Nat.le_trans (List.length_filter_le _ _) (by simp)
theorem bTab_nodup (n c m : Nat) : ((bTab n c m).map Row.stop).Nodup := by
  unfold bTab
  rw [List.map_map]
  refine List.Pairwise.map _ (R := fun a b => a ≠ b) (fun a b hab e => hab ?_) (List.Pairwise.filter _ List.nodup_range)
  simp only [Function.comp] at e
  omega
/-- What is true of the first i passes, and of what they leave. -/
structure BI (ms : List Mach) (its : List Item) (P : List UInt8) (i : Nat) : Prop where
  nd : ((bAt ms its P i).1 ++ tkF (bAt ms its P i).2).Nodup
  src : ∀ s ∈ (bAt ms its P i).1 ++ tkF (bAt ms its P i).2, srcOk (psF (mslF ms) (bAt ms its P i).2) s ∧ (s.1 = 0 → s.2 ≤ min i 3)
  ids : ∀ (j : Nat) (y : Pass), (bAt ms its P i).2[j]? = some y → y.id = 20 - j
  pok : ∀ (j : Nat) (y : Pass), (bAt ms its P i).2[j]? = some y → passOk (mslF ms) (psF (mslF ms) ((bAt ms its P i).2.take j)) (tkF ((bAt ms its P i).2.take j)) y
theorem key_ids {msl : List (Int × Int)} {l : List Pass} {i : Nat} (hl : l.length = i) (hids : ∀ (j : Nat) (y : Pass), l[j]? = some y → y.id = 20 - j) {id n : Int} (h : asF id (psF msl l) = some n) : ∃ j : Nat, j < i ∧ id = 20 - j := by
  obtain ⟨j, hj⟩ := asF_some h
  rw [psF, List.getElem?_map] at hj
  cases hy : l[j]? with
  | none => rw [hy] at hj; cases hj
  | some y =>
    rw [hy] at hj
    simp only [Option.map_some, Option.some.injEq, Prod.mk.injEq] at hj
    exact ⟨j, by have := (List.getElem?_eq_some_iff.1 hy).1; omega, by rw [← hj.1]; exact hids j y hy⟩
theorem srcOk_mono {ps : List (Int × Int)} {q : Int × Int} {s : Int × Int} (h : srcOk ps s) : srcOk (ps ++ [q]) s := by
  unfold srcOk at h ⊢
  by_cases h0 : s.1 = 0
  · rw [if_pos h0] at h ⊢; exact h
  · rw [if_neg h0] at h ⊢
    cases ho : asF s.1 ps with
    | none => rw [ho] at h; exact h.elim
    | some n => rw [ho] at h; rw [asF_app, ho]; exact h
theorem BI.zero (ms : List Mach) (its : List Item) (P : List UInt8) : BI ms its P 0 := ⟨by simp [bAt, tkF], by simp [bAt, tkF], by simp [bAt], by simp [bAt]⟩
theorem BI.step {ms : List Mach} {its : List Item} {P : List UInt8} {i : Nat} (h : BI ms its P i) (hi : i < 6) (hm : 1 ≤ ms.length) (hn : (ms.map Mach.id).Nodup) (hc : ∀ m ∈ ms, 1 ≤ m.caps.length) (hl : its.length ≤ 2000) : BI ms its P (i + 1) := by
  obtain ⟨nd, src, ids, pok⟩ := h
  have hlen := bAt_len ms its P i
  have e1 : (bAt ms its P (i + 1)).1 = bNext ms (P.getD i 0).toNat i (bAt ms its P i).1 := rfl
  have e2 : (bAt ms its P (i + 1)).2 = (bAt ms its P i).2 ++ [bPass ms its (P.getD i 0).toNat i (bAt ms its P i).1] := rfl
  have hn8 := (P.getD i 0).toNat_lt
  generalize (P.getD i 0).toNat = n at e1 e2 hn8
  generalize (bAt ms its P i).1 = left at *
  generalize (bAt ms its P i).2 = pss at *
  obtain ⟨m, hmm, hmd⟩ : ∃ m, m ∈ ms ∧ bMd ms n = m := by
    have hlt : n % ms.length < ms.length := Nat.mod_lt _ (by omega)
    exact ⟨ms[n % ms.length], List.getElem_mem _, by unfold bMd; simp [List.getD_eq_getElem?_getD, hlt]⟩
  have hcm := hc m hmm
  have hmsl : asF m.id (mslF ms) = some (m.caps.length : Int) := by
    obtain ⟨j, hj⟩ := List.getElem?_of_mem hmm
    exact asF_at (j := j) (by rw [mslF_keys]; exact hn) (by rw [mslF, List.getElem?_map, hj]; rfl)
  -- what is left, with the new batch
  have hL : (bLeft i left ++ tkF pss).Nodup ∧ ∀ s ∈ bLeft i left ++ tkF pss, srcOk (psF (mslF ms) pss) s ∧ (s.1 = 0 → s.2 ≤ min (i + 1) 3) := by
    unfold bLeft
    by_cases h3 : i < 3
    · rw [if_pos h3]
      refine ⟨?_, fun s hs => ?_⟩
      · rw [List.append_assoc, List.singleton_append]
        refine List.perm_middle.nodup_iff.2 (List.nodup_cons.2 ⟨fun hh => ?_, nd⟩)
        have := (src _ hh).2 rfl
        dsimp only at this
        omega
      · rw [List.append_assoc, List.singleton_append] at hs
        rcases List.mem_cons.1 (List.perm_middle.mem_iff.1 hs) with rfl | hs
        · refine ⟨?_, fun _ => by dsimp only; omega⟩
          unfold srcOk
          rw [if_pos rfl]
          dsimp only; omega
        · exact ⟨(src s hs).1, fun h0 => by have := (src s hs).2 h0; omega⟩
    · rw [if_neg h3]
      exact ⟨nd, fun s hs => ⟨(src s hs).1, fun h0 => by have := (src s hs).2 h0; omega⟩⟩
  have hpp := bPick_perm n (bLeft i left) 0 [] []
  rw [List.nil_append, List.nil_append] at hpp
  have hy : bPass ms its n i left = ⟨20 - i, m.id, (n : Int) / 8 % 16, (bPick n 0 [] [] (bLeft i left)).1, bTab n m.caps.length 8, bUn its n i its.length⟩ := by unfold bPass; rw [hmd]
  have hx : bNext ms n i left = (bPick n 0 [] [] (bLeft i left)).2 ++ bSrcs (20 - i) m.caps.length := by unfold bNext; rw [hmd]
  generalize (bPick n 0 [] [] (bLeft i left)).1 = fr at *
  generalize (bPick n 0 [] [] (bLeft i left)).2 = re at *
  generalize bLeft i left = left2 at *
  rw [hx] at e1
  rw [hy] at e2
  clear hx hy
  have hnew : asF (20 - (i : Int)) (psF (mslF ms) pss) = none := by
    cases ho : asF (20 - (i : Int)) (psF (mslF ms) pss) with
    | none => rfl
    | some q =>
      obtain ⟨j, hj, e⟩ := key_ids hlen ids ho
      omega
  have hold : ∀ s ∈ left2 ++ tkF pss, s.1 ≠ 20 - (i : Int) := fun s hs e => by
    have h1 := (hL.2 s hs).1
    unfold srcOk at h1
    rw [if_neg (by omega), e, hnew] at h1
    exact h1
  have hps2 : psF (mslF ms) (pss ++ [⟨20 - i, m.id, (n : Int) / 8 % 16, fr, bTab n m.caps.length 8, bUn its n i its.length⟩]) = psF (mslF ms) pss ++ [(20 - (i : Int), (m.caps.length : Int))] := by simp [psF, hmsl]
  have htk2 : tkF (pss ++ [⟨20 - i, m.id, (n : Int) / 8 % 16, fr, bTab n m.caps.length 8, bUn its n i its.length⟩]) = tkF pss ++ fr := by simp [tkF]
  have hfr : ∀ s ∈ fr, s ∈ left2 := fun s hs => hpp.mem_iff.1 (List.mem_append.2 (.inl hs))
  have hre : ∀ s ∈ re, s ∈ left2 := fun s hs => hpp.mem_iff.1 (List.mem_append.2 (.inr hs))
  have hsrcs : ∀ s ∈ bSrcs (20 - (i : Int)) m.caps.length, s.1 = 20 - (i : Int) ∧ 0 ≤ s.2 ∧ s.2 < m.caps.length := fun s hs => by
    obtain ⟨k, hk, rfl⟩ := List.mem_map.1 hs
    have := List.mem_range.1 hk
    exact ⟨rfl, by dsimp only; omega, by dsimp only; omega⟩
  have hsn : (bSrcs (20 - (i : Int)) m.caps.length).Nodup := by
    unfold bSrcs
    refine List.Pairwise.map _ (R := fun a b => a ≠ b) (fun a b hab e => hab ?_) List.nodup_range
    have := (Prod.mk.inj e).2
    omega
  refine ⟨?_, fun s hs => ?_, fun j y hy => ?_, fun j y hy => ?_⟩
  · rw [e1, e2, htk2]
    have hperm : (re ++ bSrcs (20 - (i : Int)) m.caps.length ++ (tkF pss ++ fr)).Perm (bSrcs (20 - (i : Int)) m.caps.length ++ (left2 ++ tkF pss)) := by
      have p1 : (re ++ bSrcs (20 - (i : Int)) m.caps.length ++ (tkF pss ++ fr)).Perm (bSrcs (20 - (i : Int)) m.caps.length ++ (re ++ (tkF pss ++ fr))) := by
        rw [← List.append_assoc (bSrcs _ _)]
        exact List.Perm.append_right _ List.perm_append_comm
      refine p1.trans (List.Perm.append_left _ ?_)
      have p2 : (re ++ (tkF pss ++ fr)).Perm (re ++ (fr ++ tkF pss)) := List.Perm.append_left _ List.perm_append_comm
      refine p2.trans ?_
      rw [← List.append_assoc]
      exact List.Perm.append_right _ (List.perm_append_comm.trans hpp)
    refine hperm.nodup_iff.2 (List.nodup_append.2 ⟨hsn, hL.1, fun a ha b hb e => ?_⟩)
    subst e
    exact hold a hb (hsrcs a ha).1
  · rw [e1, e2, htk2] at hs
    rw [e2, hps2]
    rcases List.mem_append.1 hs with hs | hs
    · rcases List.mem_append.1 hs with hs | hs
      · have := hL.2 s (List.mem_append.2 (.inl (hre s hs)))
        exact ⟨srcOk_mono this.1, this.2⟩
      · obtain ⟨g1, g2, g3⟩ := hsrcs s hs
        refine ⟨?_, fun h0 => by omega⟩
        unfold srcOk
        rw [if_neg (by omega), g1, asF_app, hnew]
        simp only [asF, if_true, Option.none_or]
        exact ⟨g2, g3⟩
    · have hs' : s ∈ left2 ++ tkF pss := by
        rcases List.mem_append.1 hs with hs | hs
        · exact List.mem_append.2 (.inr hs)
        · exact List.mem_append.2 (.inl (hfr s hs))
      exact ⟨srcOk_mono (hL.2 s hs').1, (hL.2 s hs').2⟩
  · rw [e2] at hy
    by_cases hj : j < pss.length
    · rw [List.getElem?_append_left hj] at hy; exact ids j y hy
    · have : j = pss.length := by have h := (List.getElem?_eq_some_iff.1 hy).1; rw [List.length_append, List.length_singleton] at h; omega
      subst this
      rw [List.getElem?_append_right (Nat.le_refl _), Nat.sub_self] at hy
      cases hy
      dsimp only; omega
  · rw [e2] at hy ⊢
    by_cases hj : j < pss.length
    · rw [List.getElem?_append_left hj] at hy
      rw [List.take_append_of_le_length (by omega)]
      exact pok j y hy
    · have : j = pss.length := by have h := (List.getElem?_eq_some_iff.1 hy).1; rw [List.length_append, List.length_singleton] at h; omega
      subst this
      rw [List.getElem?_append_right (Nat.le_refl _), Nat.sub_self] at hy
      cases hy
      rw [List.take_append_of_le_length (Nat.le_refl _), List.take_length]
      have hfn : fr.Nodup := by
        have := (List.nodup_append.1 hL.1).1
        exact (List.nodup_append.1 (hpp.nodup_iff.2 this)).1
      refine ⟨⟨⟨hnew, by rw [hmsl]; rfl⟩, by unfold idOk; dsimp only; omega, by dsimp only; omega⟩, srcs_of hfn fun s hs => ⟨fun hh => ?_, (hL.2 s (List.mem_append.2 (.inl (hfr s hs)))).1⟩, ⟨?_, ?_⟩, ?_⟩
      · exact (List.nodup_append.1 hL.1).2.2 s (hfr s hs) s hh rfl
      · have := bTab_len n m.caps.length 8
        dsimp only; omega
      · have := bUn_len its n i its.length
        dsimp only; omega
      · dsimp only
        rw [hmsl, Option.getD_some]
        refine rows_of (bTab_nodup _ _ _) fun e he => ⟨by simp, ?_⟩
        obtain ⟨s, _, _, rfl⟩ := bTab_mem he
        have : (n + s) % m.caps.length < m.caps.length := Nat.mod_lt _ (by omega)
        dsimp only; omega
theorem BI.all {ms : List Mach} {its : List Item} {P : List UInt8} (hm : 1 ≤ ms.length) (hn : (ms.map Mach.id).Nodup) (hc : ∀ m ∈ ms, 1 ≤ m.caps.length) (hl : its.length ≤ 2000) : ∀ i, i ≤ 6 → BI ms its P i
  | 0, _ => BI.zero ms its P
  | i + 1, h => BI.step (BI.all hm hn hc hl i (by omega)) (by omega) hm hn hc hl
/-- Plants that built makes, with machines of other rates. -/
def rated (ms : List Mach) (rs : List Int) : List Mach := ms.zipWith (fun m r => { m with rate := r }) rs
theorem built_bi (x : Sk) : BI (bMs x) (bIs x) x.ps (min x.ps.length 6) :=
  BI.all (bMs_len x).1 (bMs_nodup x) (fun m hm => (bMs_caps hm).1) (by unfold bIs; rw [bIsN_len]; omega) _ (by omega)
theorem built_valid (x : Sk) : validF (built x) = (0, 0) := by
  have hb := built_bi x
  have hl := bMs_len x
  refine validF_of ⟨?_, ?_, ?_⟩ (bMs_nodup x) (fun m hm => ?_) (bIs_nodup x) (bIs_ok x) hb.pok
  · show (bMs x).length ≤ 20; omega
  · show (bIs x).length ≤ 2000; unfold bIs; rw [bIsN_len]; omega
  · show (bAt (bMs x) (bIs x) x.ps (min x.ps.length 6)).2.length ≤ 60; rw [bAt_len]; omega
  · obtain ⟨j, hj⟩ := List.getElem?_of_mem (show m ∈ bMs x from hm)
    obtain ⟨hj1, rfl⟩ := bMach_id hj
    have h0 := nb_bd x.ms 0
    have h2 := nb_bd x.ms (j + 2)
    exact bMach_right x.ms x.shs j (by omega) (r := 1 + nb x.ms (j + 2) % 5) (by omega)
end Go.Sx.Plt
namespace Go.Sx.Srt
open Go.Sx.Seq (addAt addAt_len)
def shift (d : Int) (m : M) : M := { m with left := m.left + d }
/-- How many sweeps are needed. -/
def needed (caps : List Int) (l : List Fd) : Int := (playF caps l.length l).swept.sum
/-! ## events -/
end Go.Sx.Srt
namespace Go.Sx.Srt
open Go.Sx.Seq (addAt addAt_len)
/-- What belongs to a stacker, in the order of feeding. -/
def goes (l : List Fd) (k : Nat) : List Int := (l.filter fun f => f.st = (k : Int)).map Fd.item
def refused (l : List Fd) : List Int := (l.filter fun f => f.st < 0).map Fd.item
theorem goes_snoc (l : List Fd) (f : Fd) (k : Nat) : goes (l ++ [f]) k = goes l k ++ if f.st = (k : Int) then [f.item] else [] := by
  unfold goes
  rw [List.filter_append, List.map_append]
  by_cases h : f.st = (k : Int) <;> simp [h]
theorem refused_snoc (l : List Fd) (f : Fd) : refused (l ++ [f]) = refused l ++ if f.st < 0 then [f.item] else [] := by
  unfold refused
  rw [List.filter_append, List.map_append]
  by_cases h : f.st < 0 <;> simp [h]
theorem list_snoc {α : Type} {P : List α → Prop} (h0 : P []) (h1 : ∀ l x, P l → P (l ++ [x])) : ∀ l, P l := by
  intro l
  have : ∀ n, n ≤ l.length → P (l.take n) := by
    intro n
    induction n with
    | zero => intro _; simpa using h0
    | succ n ih =>
      intro hn
      have hx := List.getElem?_eq_getElem (show n < l.length by omega)
      rw [List.take_add_one, hx]
      exact h1 _ _ (ih (by omega))
  have := this l.length (Nat.le_refl _)
  rwa [List.take_length] at this
theorem playF_goes {caps : List Int} {s : Int} : ∀ l : List Fd, (∀ f ∈ l, f.st < caps.length) → ∀ k, ((playF caps s l).stackers.getD k []).Sublist (goes l k) := by
  refine list_snoc ?_ ?_
  · intro _ k
    simp only [playF_nil, M.new]
    have : (List.replicate caps.length ([] : List Int)).getD k [] = [] := by
      by_cases h : k < caps.length <;> simp [h]
    rw [this]; exact List.nil_sublist _
  · intro l f ih hl k
    have ih := ih (fun x hx => hl x (List.mem_append_left _ hx)) k
    have hf := hl f (by simp)
    have hz := (playF_sz caps s l).st
    rw [playF_snoc, goes_snoc]
    have hput : 0 ≤ f.st → ((putAt (playF caps s l).stackers f.st.toNat f.item).getD k []).Sublist (goes l k ++ if f.st = (k : Int) then [f.item] else []) := fun h0 => by
      rw [putAt_getD, hz]
      refine ih.append ?_
      by_cases e : f.st = (k : Int)
      · rw [if_pos (by omega), if_pos e]; exact List.Sublist.refl _
      · rw [if_neg (by omega), if_neg e]; exact List.Sublist.refl _
    have hsame : ((playF caps s l).stackers.getD k []).Sublist (goes l k ++ if f.st = (k : Int) then [f.item] else []) := ih.trans (List.sublist_append_left _ _)
    rcases take_cases caps (playF caps s l) f with ⟨_, e⟩ | ⟨h0, _, e⟩ | ⟨h0, _, _, e⟩ | ⟨_, _, _, e⟩ <;> rw [e]
    · exact hsame
    · exact hput h0
    · exact hput h0
    · exact hsame
theorem playF_refused {caps : List Int} {s : Int} : ∀ l : List Fd, (playF caps s l).rej = refused l := by
  refine list_snoc ?_ ?_
  · rfl
  · intro l f ih
    rw [playF_snoc, refused_snoc]
    rcases take_cases caps (playF caps s l) f with ⟨h, e⟩ | ⟨h, _, e⟩ | ⟨h, _, _, e⟩ | ⟨h, _, _, e⟩ <;> rw [e]
    · simp only [note, ih, if_pos h]
    · simp only [note, stack, ih, if_neg (show ¬ f.st < 0 by omega), List.append_nil]
    · simp only [note, stack, ih, if_neg (show ¬ f.st < 0 by omega), List.append_nil]
    · simp only [note, ih, if_neg (show ¬ f.st < 0 by omega), List.append_nil]
end Go.Sx.Srt
namespace Go.Sx.Plt
open Go.Proofs.Ytkhaemjoekfhiaa (mslF_keys psF tkF psF_snoc tkF_snoc)
/-! ## slices and minutes -/
theorem span_min {rel : Int} : ∀ {l : List Sh} {left : Int}, 0 ≤ left → spanF (slicesF rel left l) = min left (haveF rel l)
  | [], left, h => by simp [slicesF, spanF, haveF]; omega
  | s :: r, left, h => by
    have hh : 0 ≤ haveF rel r := by
      have : ∀ l : List Sh, 0 ≤ haveF rel l := by
        intro l
        induction l with
        | nil => simp [haveF]
        | cons a l ih => rw [haveF]; omega
      exact this r
    rw [slicesF, haveF]
    by_cases hc : left = 0 ∨ s.t ≤ max s.f rel
    · rw [if_pos hc, span_min h]
      rcases hc with h0 | h0 <;> omega
    · rw [if_neg hc, spanF, span_min (by omega)]
      dsimp only
      omega
/-- Slices, one behind the other. -/
def Chain : Int → List (Int × Int) → Prop
  | _, [] => True
  | e, s :: r => (e ≤ s.1 ∧ s.1 < s.2) ∧ Chain s.2 r
theorem Chain.mono : ∀ {l : List (Int × Int)} {e e' : Int}, e' ≤ e → Chain e l → Chain e' l
  | [], _, _, _, _ => trivial
  | s :: r, e, e', h, hc => ⟨by have := hc.1; omega, hc.2⟩
theorem need_lt {k n : Int} {r : Int} (hr : 1 ≤ r) : k < (n + r - 1) / r ↔ k * r < n := by
  have h1 : k + 1 ≤ (n + r - 1) / r ↔ (k + 1) * r ≤ n + r - 1 := Int.le_ediv_iff_mul_le (by omega)
  have h2 : (k + 1) * r = k * r + r := by rw [Int.add_mul, Int.one_mul]
  rw [h2] at h1
  omega
/-! ## feeds -/
theorem tableF_mem {k v : Int} : ∀ l : List Row, asF k (tableF l) = some v → ∃ e ∈ l, e.stop = k ∧ e.st = v := by
  refine fun l => snoc_ind (p := fun l => asF k (tableF l) = some v → ∃ e ∈ l, e.stop = k ∧ e.st = v) (fun h => by simp [tableF, asF] at h) (fun l e ih h => ?_) l
  rw [tableF_snoc, asF_put] at h
  by_cases hk : e.stop = k
  · rw [if_pos hk] at h
    exact ⟨e, by simp, hk, by simpa using h⟩
  · rw [if_neg hk] at h
    obtain ⟨x, hx, h1⟩ := ih h
    exact ⟨x, List.mem_append.2 (.inl hx), h1⟩
theorem rows_spec {n : Int} : ∀ {l : List Row} {met : List Int}, rowsOk n met l → ∀ e ∈ l, 0 ≤ e.st ∧ e.st < n
  | [], _, _, e, h => by simp at h
  | a :: r, met, h, e, he => by
    rcases List.mem_cons.1 he with rfl | he
    · exact h.1.2
    · exact rows_spec h.2 e he
theorem feed_item (stops : List (Int × Int)) (y : Pass) (x : Int) : (feedOf stops y x).item = x := by unfold feedOf; split <;> rfl
theorem feed_bd {stops : List (Int × Int)} {y : Pass} {n : Int} (hr : rowsOk n [] y.table) (hn : 0 ≤ n) (x : Int) : -1 ≤ (feedOf stops y x).st ∧ (feedOf stops y x).st < n := by
  unfold feedOf
  cases ho : asF ((asF x stops).getD 0) (tableF y.table) with
  | none => dsimp only; omega
  | some k =>
    obtain ⟨e, he, _, rfl⟩ := tableF_mem _ ho
    have := rows_spec hr e he
    dsimp only
    split <;> omega
theorem Valid.feeds {p : Plant} (hv : Valid p) {i : Nat} {h : Hall} (hi : Inv p i h) {y : Pass} (hy : p.passes[i]? = some y) {m : Mach} (hm : asF y.mach (mslF p.ms) = some (m.caps.length : Int)) {items : List Int} (hit : items = y.src.flatMap h.row) : Srt.FdsOk m.caps.length (items.map (feedOf (stopsF p.items) y)) ∧ (∀ x ∈ items, x ∈ p.items.map Item.id) ∧ items.Nodup := by
  have hs := hv.src hy
  have hcount := fun x => hi.count hs.1 (fun s hs' => (hs.2 s hs').1) x
  rw [← hit] at hcount
  have hmem : ∀ x ∈ items, x ∈ p.items.map Item.id := fun x hx => by
    have h1 := List.count_pos_iff.2 hx
    have := hcount x
    exact List.count_pos_iff.1 (by omega)
  have hnd : items.Nodup := List.nodup_iff_count.2 fun x => by
    have := hcount x
    have := List.nodup_iff_count.1 hv.ind x
    omega
  refine ⟨⟨fun f hf => ?_, ?_, ?_⟩, hmem, hnd⟩
  · obtain ⟨x, hx, rfl⟩ := List.mem_map.1 hf
    obtain ⟨z, hz, e⟩ := List.mem_map.1 (hmem x hx)
    have hok := (hv.iok z hz).1
    unfold idOk at hok
    have hrow := (hv.pok i y hy).2.2.2
    rw [hm, Option.getD_some] at hrow
    have := feed_bd (stops := stopsF p.items) hrow (by omega) x
    unfold Srt.Fd.ok
    rw [feed_item]
    omega
  · rw [feed_items]; exact hnd
  · rw [List.length_map]
    have := hi.len hv hs.1 (fun s hs' => (hs.2 s hs').1)
    rw [← hit] at this
    exact this
/-! ## one run -/
/-- A run that was run. -/
structure Ran (p : Plant) (h : Hall) (m : Mach) (y : Pass) (r : Run) (ready : Int) : Prop where
  take : takeSrc h (max y.rel ((asF m.id h.free).getD 0)) [] y.src = some (ready, r.items)
  pass : r.pass = y.id
  res : Srt.runF m.caps m.sweeps (r.items.map (feedOf (stopsF p.items) y)) = (r.res, 0)
  hall : (runF h m (stopsF p.items) y).2 = ⟨putRows y.id 0 r.res.stackers h.rows, putF y.id r.fin h.ends, putF m.id r.fin h.free⟩
  slices : r.slices = if r.items = [] then [] else slicesF ready (needOf r.items.length m.rate) m.shifts
  enough : needOf r.items.length m.rate ≤ haveF ready m.shifts
  start : r.start = if r.items = [] then ready else (r.slices.headD (0, 0)).1
  fin : r.fin = if r.items = [] then ready else (r.slices.getLastD (0, 0)).2
/-- A run that was not. -/
structure Miss (p : Plant) (h : Hall) (m : Mach) (y : Pass) (r : Run) : Prop where
  eq : r = missed y
  hall : (runF h m (stopsF p.items) y).2 = h
  why : ∀ ready items, takeSrc h (max y.rel ((asF m.id h.free).getD 0)) [] y.src = some (ready, items) → haveF ready m.shifts * m.rate < items.length
theorem need_nonneg {n : Nat} {r : Int} (hr : 1 ≤ r) : 0 ≤ needOf n r := Int.ediv_nonneg (by omega) (by omega)
theorem haveF_nonneg (t : Int) : ∀ l : List Sh, 0 ≤ haveF t l
  | [] => by simp [haveF]
  | a :: r => by have := haveF_nonneg t r; rw [haveF]; omega
theorem run_cases {p : Plant} (hv : Valid p) {i : Nat} {h : Hall} (hi : Inv p i h) {y : Pass} (hy : p.passes[i]? = some y) {m : Mach} (hm : asF y.mach (mslF p.ms) = some (m.caps.length : Int)) (hr : rightM m) :
    Miss p h m y (runF h m (stopsF p.items) y).1 ∨ ∃ ready, Ran p h m y (runF h m (stopsF p.items) y).1 ready := by
  have hrate := hr.2.1.1
  cases ht : takeSrc h (max y.rel ((asF m.id h.free).getD 0)) [] y.src with
  | none =>
    have e : runF h m (stopsF p.items) y = (missed y, h) := by unfold runF; rw [ht]
    exact .inl ⟨by rw [e], by rw [e], fun ready items hh => by rw [ht] at hh; cases hh⟩
  | some q =>
    obtain ⟨ready, items⟩ := q
    have hit := (takeSrc_spec ht).1
    rw [List.nil_append] at hit
    obtain ⟨hfd, _, _⟩ := hv.feeds hi hy hm hit
    have hcaps : Srt.capsOk m.caps ∧ 0 ≤ m.sweeps ∧ m.sweeps ≤ 1000 := by
      have h1 := hr.2.2.1
      unfold Srt.runF at h1
      split at h1
      · cases h1
      · rename_i hc
        split at h1
        · cases h1
        · rename_i hs
          exact ⟨Classical.not_not.1 hc, by omega, by omega⟩
    have hres := Srt.runF_ok hcaps.1 hcaps.2 hfd
    by_cases hne : items = []
    · subst hne
      have e := Go.Proofs.Ytkhaemjoekfhiaa.runF_idle (stops := stopsF p.items) ht
      rw [show Srt.runF m.caps m.sweeps [] = _ from hres] at e
      unfold Go.Proofs.Ytkhaemjoekfhiaa.tailF at e
      rw [if_neg (by simp)] at e
      refine .inr ⟨ready, ?_⟩
      rw [e]
      refine ⟨ht, rfl, hres, by rw [e], rfl, ?_, rfl, rfl⟩
      have : needOf ([] : List Int).length m.rate = 0 := by
        unfold needOf
        exact Int.ediv_eq_zero_of_lt (by simp; omega) (by simp; omega)
      dsimp only
      rw [this]
      exact haveF_nonneg _ _
    · have hsp := span_min (rel := ready) (l := m.shifts) (need_nonneg (n := items.length) hrate)
      by_cases hl : slicesF ready (needOf items.length m.rate) m.shifts = [] ∨ spanF (slicesF ready (needOf items.length m.rate) m.shifts) < needOf items.length m.rate
      · have e := Go.Proofs.Ytkhaemjoekfhiaa.runF_late (stops := stopsF p.items) ht hne hl
        refine .inl ⟨by rw [e], by rw [e], fun r2 i2 hh => ?_⟩
        rw [ht] at hh
        cases hh
        have hn1 : 1 ≤ needOf items.length m.rate := by
          have := List.length_pos_iff.2 hne
          unfold needOf
          exact Int.le_ediv_of_mul_le (by omega) (by omega)
        have h2 : haveF ready m.shifts < needOf items.length m.rate := by
          rcases hl with h0 | h0
          · rw [h0, spanF] at hsp; omega
          · omega
        exact (need_lt hrate).1 h2
      · have e := Go.Proofs.Ytkhaemjoekfhiaa.runF_busy (stops := stopsF p.items) ht hne hl
        rw [hres] at e
        unfold Go.Proofs.Ytkhaemjoekfhiaa.tailF at e
        rw [if_neg (by simp)] at e
        refine .inr ⟨ready, ?_⟩
        rw [e]
        refine ⟨ht, rfl, hres, by rw [e], by dsimp only; rw [if_neg hne], by dsimp only; omega, by dsimp only; rw [if_neg hne], by dsimp only; rw [if_neg hne]⟩
end Go.Sx.Plt
namespace Go.Sx.Plt
open Go.Proofs.Ytkhaemjoekfhiaa (mslF_keys psF tkF psF_snoc tkF_snoc)
/-- The run of a pass of a valid plant. -/
theorem Valid.run {p : Plant} (hv : Valid p) {i : Nat} {y : Pass} (hy : p.passes[i]? = some y) {r : Run} (hr : (playF p)[i]? = some r) : ∃ (k : Nat) (m : Mach), p.ms[k]? = some m ∧ m.id = y.mach ∧ rightM m ∧ r = (runF (hallAt p i) m (stopsF p.items) y).1 ∧ hallAt p (i + 1) = (runF (hallAt p i) m (stopsF p.items) y).2 ∧
    asF y.mach (mslF p.ms) = some (m.caps.length : Int) ∧ (Miss p (hallAt p i) m y r ∨ ∃ ready, Ran p (hallAt p i) m y r ready) := by
  obtain ⟨k, m, h1, h2, h3, h4, h5⟩ := hv.mach hy
  have hg := playF_get hy
  rw [hr, h3] at hg
  have e : r = (runF (hallAt p i) m (stopsF p.items) y).1 := Option.some.inj hg
  refine ⟨k, m, h1, h2, h4, e, by rw [hallAt_succ hy, h3], h5, ?_⟩
  rw [e]
  exact run_cases hv (Inv.all hv i) hy h5 h4
theorem pass_lt {p : Plant} {i : Nat} {y : Pass} (h : p.passes[i]? = some y) : i < p.passes.length := (List.getElem?_eq_some_iff.1 h).1
theorem Valid.get {p : Plant} {i : Nat} {y : Pass} (h : p.passes[i]? = some y) : ∃ r, (playF p)[i]? = some r := ⟨_, List.getElem?_eq_getElem (by rw [playF_len]; exact pass_lt h)⟩
theorem hall_stay {p : Plant} {i : Nat} (h : p.passes[i]? = none) : hallAt p (i + 1) = hallAt p i := by
  unfold hallAt
  rw [List.take_add_one, h]; simp
/-! ## rows -/
theorem batch_row (b : Int) : ∀ l : List Item, (asF ((0 : Int), b) (batchRows [] l)).getD [] = ofBatch l (0, b) := by
  refine fun l => snoc_ind (p := fun l => (asF ((0 : Int), b) (batchRows [] l)).getD [] = ofBatch l (0, b)) (by simp [batchRows, asF, ofBatch]) (fun l x ih => ?_) l
  rw [batch_snoc, asF_put]
  unfold ofBatch at ih ⊢
  rw [if_pos rfl] at ih ⊢
  rw [List.filter_append, List.map_append]
  by_cases h : x.batch = b
  · rw [if_pos (by rw [h]), Option.getD_some, h, ih]; simp [h]
  · rw [if_neg (fun e => h (Prod.mk.inj e).2), ih]; simp [h]
theorem batch_row0 {s : Int × Int} (h : s.1 ≠ 0) (l : List Item) : asF s (batchRows [] l) = none := by
  refine snoc_ind (p := fun l => asF s (batchRows [] l) = none) (by simp [batchRows, asF]) (fun l x ih => ?_) l
  rw [batch_snoc, asF_put, if_neg (fun e => h (by rw [← e]))]
  exact ih
theorem ofRun_missed (y : Pass) {s : Int × Int} (h : 0 ≤ s.2) : ofRun s (missed y) = [] := by
  unfold ofRun
  rw [if_neg]
  rintro ⟨_, h2⟩
  simp [missed, Srt.M.new] at h2
  omega
theorem Valid.rows {p : Plant} (hv : Valid p) {s : Int × Int} (hs : 0 ≤ s.2) : ∀ i, (hallAt p i).row s = ofBatch p.items s ++ ((playF p).take i).flatMap (ofRun s)
  | 0 => by
    rw [hallAt_zero, List.take_zero, List.flatMap_nil, List.append_nil]
    unfold Hall.row hall0
    dsimp only
    by_cases h0 : s.1 = 0
    · obtain ⟨a, b⟩ := s
      dsimp only at h0
      subst h0
      exact batch_row b p.items
    · rw [batch_row0 h0]
      unfold ofBatch
      rw [if_neg h0]; rfl
  | i + 1 => by
    have ih := Valid.rows hv hs i
    cases hy : p.passes[i]? with
    | none =>
      have hl : p.passes.length ≤ i := by
        rcases Nat.lt_or_ge i p.passes.length with h | h
        · rw [List.getElem?_eq_getElem h] at hy; cases hy
        · exact h
      rw [hall_stay hy, ih, List.take_of_length_le (by rw [playF_len]; omega), List.take_of_length_le (by rw [playF_len]; omega)]
    | some y =>
      obtain ⟨r, hr⟩ := Valid.get hy
      obtain ⟨k, m, _, _, _, hre, hh, _, hc⟩ := hv.run hy hr
      rw [flatMap_snoc' _ hr, ← List.append_assoc, ← ih]
      rcases hc with hc | ⟨ready, hc⟩
      · rw [hh, hc.hall, hc.eq, ofRun_missed y hs, List.append_nil]
      · rw [hh, hc.hall]
        unfold Hall.row
        dsimp only
        obtain ⟨a, b⟩ := s
        dsimp only at hs
        rw [putRows_as]
        have hidn : y.id ≠ 0 := by
          have := (hv.pok i y hy).1.2.1
          unfold idOk at this
          omega
        unfold ofRun
        rw [hc.pass]
        dsimp only
        by_cases hid : a = y.id
        · subst hid
          have h0 : asF (y.id, b) (hallAt p i).rows = none := (Inv.all hv i).row_early hidn (hv.new hy)
          rw [h0]
          by_cases hb : b < (r.res.stackers.length : Int)
          · rw [if_pos ⟨rfl, by omega, by omega⟩, if_pos ⟨rfl, hb⟩]
            simp [List.getD_eq_getElem?_getD]
          · rw [if_neg (by rintro ⟨_, _, h⟩; omega), if_neg (fun h => hb h.2)]; rfl
        · rw [if_neg (fun h => hid h.1), if_neg (fun h => hid h.1.symm), List.append_nil]
theorem src_nonneg {ps : List (Int × Int)} {s : Int × Int} (h : srcOk ps s) : 0 ≤ s.2 := by
  unfold srcOk at h
  split at h
  · omega
  · split at h
    · exact h.elim
    · exact h.1
theorem Valid.src_nn {p : Plant} (hv : Valid p) {i : Nat} {y : Pass} (hy : p.passes[i]? = some y) : ∀ s ∈ y.src, 0 ≤ s.2 := fun s hs => src_nonneg ((srcs_spec (hv.pok i y hy).2.1).2 s hs).2
theorem Valid.taken' {p : Plant} (hv : Valid p) {i : Nat} {y : Pass} (hy : p.passes[i]? = some y) : y.src.flatMap (hallAt p i).row = takenF p.items ((playF p).take i) y.src := by
  unfold takenF
  have : ∀ l : List (Int × Int), (∀ s ∈ l, 0 ≤ s.2) → l.flatMap (hallAt p i).row = l.flatMap fun s => ofBatch p.items s ++ ((playF p).take i).flatMap (ofRun s) := by
    intro l
    induction l with
    | nil => intro _; rfl
    | cons a l ih =>
      intro h
      rw [List.flatMap_cons, List.flatMap_cons, ih fun s hs => h s (List.mem_cons_of_mem _ hs), hv.rows (h a List.mem_cons_self) i]
  exact this _ (hv.src_nn hy)
theorem Valid.taken_len {p : Plant} (hv : Valid p) {i : Nat} {y : Pass} (hy : p.passes[i]? = some y) : (takenF p.items ((playF p).take i) y.src).length ≤ 2000 := by
  rw [← hv.taken' hy]
  have hs := hv.src hy
  exact (Inv.all hv i).len hv hs.1 fun s hs' => (hs.2 s hs').1
theorem Ran.items {p : Plant} {i : Nat} {m : Mach} {y : Pass} {r : Run} {ready : Int} (hc : Ran p (hallAt p i) m y r ready) (hv : Valid p) (hy : p.passes[i]? = some y) : r.items = takenF p.items ((playF p).take i) y.src := by
  have := (takeSrc_spec hc.take).1
  rw [List.nil_append] at this
  rw [this, hv.taken' hy]
/-! ## where items are put -/
theorem count_flat {x : Int} : ∀ {l : List (List Int)}, x ∈ l.flatten → ∃ k, k < l.length ∧ x ∈ l.getD k []
  | [], h => by simp at h
  | a :: r, h => by
    rw [List.flatten_cons] at h
    rcases List.mem_append.1 h with h | h
    · exact ⟨0, by simp, by simpa using h⟩
    · obtain ⟨k, hk, hx⟩ := count_flat h
      exact ⟨k + 1, by simp; omega, by simpa using hx⟩
theorem count_part {x : Int} : ∀ {l : List (List Int)} {k : Nat}, (l.getD k []).count x ≤ l.flatten.count x
  | [], k => by simp
  | a :: r, 0 => by rw [List.flatten_cons, List.count_append]; simp
  | a :: r, k + 1 => by
    have := count_part (x := x) (l := r) (k := k)
    rw [List.flatten_cons, List.count_append]
    simp only [List.getD_cons_succ]
    omega
structure Placed (r : Run) (x st : Int) : Prop where
  all : allN r x r.res.stackers.length = 1
  rej : st < 0 → holdsF r x 4 r.pass 0
  put : 0 ≤ st → holdsF r x 2 r.pass st ∨ holdsF r x 3 r.pass 0
  place : ∀ kd ps nu, placeF r x = (kd, ps, nu) → (kd = 2 ∨ kd = 3 ∨ kd = 4) ∧ holdsF r x kd ps nu
theorem stkF_some {x : Int} : ∀ {l : List (List Int)} {i k : Nat}, stkF x i l = some k → i ≤ k ∧ x ∈ l.getD (k - i) []
  | [], _, _, h => by simp [stkF] at h
  | a :: r, i, k, h => by
    rw [stkF] at h
    by_cases hx : x ∈ a
    · rw [if_pos hx] at h; cases h; exact ⟨Nat.le_refl _, by simpa using hx⟩
    · rw [if_neg hx] at h
      obtain ⟨h1, h2⟩ := stkF_some h
      refine ⟨by omega, ?_⟩
      rw [show k - i = (k - (i + 1)) + 1 from by omega]
      simpa using h2
theorem stkF_none {x : Int} : ∀ {l : List (List Int)} {i : Nat}, stkF x i l = none → x ∉ l.flatten
  | [], _, _ => by simp
  | a :: r, i, h => by
    rw [stkF] at h
    by_cases hx : x ∈ a
    · rw [if_pos hx] at h; cases h
    · rw [if_neg hx] at h
      rw [List.flatten_cons, List.mem_append, not_or]
      exact ⟨hx, stkF_none h⟩
theorem Ran.placed {p : Plant} {h : Hall} {m : Mach} {y : Pass} {r : Run} {ready : Int} (hc : Ran p h m y r ready) {x : Int} (hx : x ∈ r.items) : Placed r x (feedOf (stopsF p.items) y x).st := by
  obtain ⟨hres, hst, hnd⟩ := srun_feeds hc.res
  rw [feed_items] at hnd
  have hcnt := stackers_count hc.res x
  have h1 : r.items.count x = 1 := by
    have := List.nodup_iff_count.1 hnd x
    have := List.count_pos_iff.2 hx
    omega
  rw [h1] at hcnt
  have hall : allN r x r.res.stackers.length = 1 := by unfold allN; rw [List.take_length]; omega
  -- the stackers have what goes there
  have hgo : ∀ k, x ∈ r.res.stackers.getD k [] → (feedOf (stopsF p.items) y x).st = (k : Int) := fun k hk => by
    rw [hres] at hk
    have := (Srt.playF_goes (s := m.sweeps) _ hst k).subset hk
    unfold Srt.goes at this
    obtain ⟨f, hf, e⟩ := List.mem_map.1 this
    rw [List.mem_filter] at hf
    obtain ⟨z, _, rfl⟩ := List.mem_map.1 hf.1
    rw [feed_item] at e
    subst e
    simpa using hf.2
  have hrj : x ∈ r.res.rej ↔ (feedOf (stopsF p.items) y x).st < 0 := by
    rw [hres, Srt.playF_refused]
    unfold Srt.refused
    constructor
    · intro h
      obtain ⟨f, hf, e⟩ := List.mem_map.1 h
      rw [List.mem_filter] at hf
      obtain ⟨z, _, rfl⟩ := List.mem_map.1 hf.1
      rw [feed_item] at e
      subst e
      simpa using hf.2
    · intro h
      exact List.mem_map.2 ⟨feedOf (stopsF p.items) y x, List.mem_filter.2 ⟨List.mem_map.2 ⟨x, hx, rfl⟩, by simpa using h⟩, feed_item _ _ _⟩
  generalize (feedOf (stopsF p.items) y x).st = st at hgo hrj
  have hS : ∀ k, x ∈ r.res.stackers.getD k [] → holdsF r x 2 r.pass (k : Int) := fun k hk => by
    have h2 := List.count_pos_iff.2 hk
    have h3 := count_part (x := x) (l := r.res.stackers) (k := k)
    refine ⟨⟨hall, ?_⟩, rfl, .inr rfl⟩
    unfold hereF inSt
    rw [if_pos rfl, if_pos (by omega), show ((k : Int)).toNat = k from rfl]
    omega
  have hO : x ∈ r.res.over → holdsF r x 3 r.pass 0 := fun hk => by
    have h2 := List.count_pos_iff.2 hk
    refine ⟨⟨hall, ?_⟩, rfl, .inl rfl⟩
    unfold hereF
    rw [if_neg (by decide), if_pos rfl]
    omega
  have hR : x ∈ r.res.rej → holdsF r x 4 r.pass 0 := fun hk => by
    have h2 := List.count_pos_iff.2 hk
    refine ⟨⟨hall, ?_⟩, rfl, .inl rfl⟩
    unfold hereF
    rw [if_neg (by decide), if_neg (by decide), if_pos rfl]
    omega
  have hex : x ∈ r.res.stackers.flatten ∨ x ∈ r.res.over ∨ x ∈ r.res.rej := by
    by_cases g1 : x ∈ r.res.stackers.flatten
    · exact .inl g1
    · by_cases g2 : x ∈ r.res.over
      · exact .inr (.inl g2)
      · have e1 := List.count_eq_zero.2 g1
        have e2 := List.count_eq_zero.2 g2
        exact .inr (.inr (List.count_pos_iff.1 (by omega)))
  refine ⟨hall, fun h => hR (hrj.2 h), fun h => ?_, fun kd ps nu he => ?_⟩
  · rcases hex with g | g | g
    · obtain ⟨k, _, hk⟩ := count_flat g
      rw [hgo k hk]
      exact .inl (hS k hk)
    · exact .inr (hO g)
    · have := hrj.1 g; omega
  · unfold placeF at he
    cases hsk : stkF x 0 r.res.stackers with
    | some k =>
      rw [hsk] at he
      cases he
      have := (stkF_some hsk).2
      rw [Nat.sub_zero] at this
      exact ⟨.inl rfl, hS k this⟩
    | none =>
      rw [hsk] at he
      dsimp only at he
      have hn := stkF_none hsk
      by_cases g2 : x ∈ r.res.over
      · rw [if_pos g2] at he
        cases he
        exact ⟨.inr (.inl rfl), hO g2⟩
      · rw [if_neg g2] at he
        cases he
        refine ⟨.inr (.inr rfl), hR ?_⟩
        rcases hex with g | g | g
        · exact (hn g).elim
        · exact (g2 g).elim
        · exact g
end Go.Sx.Plt
namespace Go.Proofs.Ytkhaemjoekfhiaa
open Go Go.Sx Go.RowKit
attribute [local irreducible] WL WC WQ WR WB WF QB St Exit.then Exit.inBlock Exit.noGoto bodyPost roundPost beginK YR RG BM Calls B AgainD MeetD
/-! ## awake -/
theorem len20 : (Plt.playF (Plt.exPl 20)).length = 2 := by rw [Plt.playF_len]; rfl
theorem len14 : (Plt.playF (Plt.exPl 14)).length = 2 := by rw [Plt.playF_len]; rfl
set_option maxHeartbeats 16000000 in
set_option maxRecDepth 100000 in
theorem awake_calls (w : World) : Calls Try.prog 16 #[] w fun e w' => e = .returned (.bool true) ∧ Below w.heap.size w w' := by
  have hl20 := len20
  have hl14 := len14
  obtain ⟨r0, hr0, e01, e02, e03, e04, e05⟩ := Plt.ex20_r0
  obtain ⟨r1, hr1, e11, e12, e13, e14⟩ := Plt.ex20_r1
  obtain ⟨s0, hs0, f01⟩ := Plt.ex14_r0
  obtain ⟨s1, hs1, f11, f12, f13⟩ := Plt.ex14_r1
  refine f_enter0 Try.func16 rfl Try.ntmps16 rfl (Rep.start w) ?_
  repeat' (first | ((first | ((with_reducible apply o_call_new (f := 35)); exact rfl) | ((with_reducible apply q_call_new (f := 35)); exact rfl; exact rfl; exact sJ_)); exact eV_; exact (fun w _ => example_calls w); rintro v NE ⟨b1, b2, b3, b4, b5, b6, b7, b8, b9, rfl, rfl⟩ <;> (try simp only [List.cons_append, List.nil_append])) | ((first | ((with_reducible apply o_call_new (f := 11)); exact rfl) | ((with_reducible apply q_call_new (f := 11)); exact rfl; exact rfl; exact sJ_)); exact eV_; exact (fun w hw => play_calls31 (Plt.calm_of Plt.ex20_valid) w (ex_plV _ _ _ _ (by exact rL_) hw)); rintro v NR ⟨ar, cr, rds, rfl, ⟨hsh, hrl⟩, oR⟩ <;> (try simp only [List.cons_append, List.nil_append])) | ((with_reducible first | apply o_move | apply o_assign | apply o_faddr0 | apply o_not_d); exact rfl; exact rfl) | ((with_reducible apply gdo_load); first | refine wo_load (h := ?_) | refine wo_loadAll (h := ?_) | refine wo_loadC (h := ?_) | refine wo_ldV (h := ?_) | refine wo_ldF (h := ?_)) | ((with_reducible first | apply o_eql | apply o_neq | apply o_extract); exact rfl; exact rfl; exact rfl) | ((with_reducible apply o_pick_f); exact rfl; exact fF_; exact rfl; exact rfl) | ((with_reducible apply o_alloc); exact rfl; intro _) | ((with_reducible apply gdo_store); first | refine wo_store1 (h := ?_) | refine wo_storeA (h := ?_)) | ((with_reducible apply o_len); infer_instance; exact rfl; exact rfl) | ((with_reducible first | apply g_run); exact rfl; exact gG_) | ((with_reducible first | apply c_seq | apply c_block | apply c_region | apply c_nil | apply c_ret | apply c_exit | apply c_skip)) | ((with_reducible first | apply e_then | apply e_then_ret | apply e_then_exit | apply e_in | apply e_in_ret | apply e_in_same)) | ((with_reducible first | apply o_appd | apply o_appn)))
  refine st_know (fun w' hw' => RunsV.at (hsh _ _ _ _ (by exact rL_) hw') hr0) ?_
  rintro ⟨br, offr, x1, k1, x2, k2, x3, n3, k3, x4, n4, k4, x5, k5, x6, k6, x7, n7, k7, rfl, hd0, hn3, g0⟩
  refine st_know (fun w' hw' => RunsV.at (hsh _ _ _ _ (by exact rL_) hw') hr1) ?_
  rintro ⟨br', offr', y1, l1, y2, l2, y3, m3, l3, y4, m4, l4, y5, l5, y6, l6, y7, m7, l7, ebr, hd1, hm3, g1⟩
  cases ebr
  have hsl : (Plt.slc3 r0.pass r0.slices)[1]? = some (3, 10, 12) := by rw [e03, e04]; rfl
  refine st_know (fun w' hw' => SV.ptr ((hsh _ _ _ _ (by exact rL_) hw').2.2 0 _ _ hd0 hr0).slices hsl) ?_
  rintro ⟨bs, offs, rfl⟩
  have hsn0 : r0.slices.length = 2 := by rw [e04]; rfl
  repeat' (first | ((with_reducible apply o_pick_f); exact rfl; exact decide_eq_false (by omega); exact rfl; exact rfl) | ((with_reducible apply g_run); exact rfl; exact decide_eq_false (by omega)) | ((with_reducible apply o_idx (m := 0)); infer_instance; infer_instance; exact rfl; exact rfl; exact rfl; exact rfl; omega) | ((with_reducible apply o_idx (m := 1)); infer_instance; infer_instance; exact rfl; exact rfl; exact rfl; exact rfl; omega) | ((with_reducible apply o_ldP); infer_instance; exact rfl; (intro w' hw'; first | exact SV.cell (hsh _ _ _ _ (by exact rL_) hw').1 hd0 (g0 _ _ rfl) | exact SV.cell (hsh _ _ _ _ (by exact rL_) hw').1 hd1 (g1 _ _ rfl)); exact rfl) | ((with_reducible apply o_ldPV (l := [.int .i64 3, .int .i64 10, .int .i64 12])); infer_instance; infer_instance; exact rfl; (intro w' hw' j' v' hj'; exact SV.cell ((hsh _ _ _ _ (by exact rL_) hw').2.2 0 _ _ hd0 hr0).slices hsl hj'); exact rfl; exact rfl) | ((first | ((with_reducible apply o_call_pure (f := 20)); exact rfl) | ((with_reducible apply q_call_pure (f := 20)); exact rfl; kernel_rfl; exact rfl; exact sJ_)); exact eV_; exact (fun w hw => same_yes e13 w ((hsh _ _ _ _ (by exact rL_) hw).2.2 1 _ _ hd1 hr1).items (SV.lit [1, 3, 4, 2, 5] encI_len hw (by exact aT_) rfl rfl (by decide)))) | ((first | ((with_reducible apply o_call_pure (f := 24)); exact rfl) | ((with_reducible apply q_call_pure (f := 24)); exact rfl; kernel_rfl; exact rfl; exact sJ_)); exact eV_; exact (fun w hw => lists_is e05 w (((hsh _ _ _ _ (by exact rL_) hw).2.2 0 _ _ hd0 hr0).stk' rfl) (SV.lit ([(_, 3, 3), (_, 2, 2)] : List SD) encS_len hw (by exact aT_) rfl rfl (by decide)) (LL.two' (x := [1, 3, 4]) (y := [2, 5]) encI_len hw (by exact aT_) (by exact aT_) (by decide) (by decide)))) | ((first | ((with_reducible apply o_call_pure (f := 24)); exact rfl) | ((with_reducible apply q_call_pure (f := 24)); exact rfl; kernel_rfl; exact rfl; exact sJ_)); exact eV_; exact (fun w hw => lists_is e14 w (((hsh _ _ _ _ (by exact rL_) hw).2.2 1 _ _ hd1 hr1).stk' rfl) (SV.lit ([(_, 3, 3), (_, 2, 2)] : List SD) encS_len hw (by exact aT_) rfl rfl (by decide)) (LL.two' (x := [3, 2, 5]) (y := [1, 4]) encI_len hw (by exact aT_) (by exact aT_) (by decide) (by decide)))) | ((first | ((with_reducible apply o_call_pure (f := 36)); exact rfl) | ((with_reducible apply q_call_pure (f := 36)); exact rfl; kernel_rfl; exact rfl; exact sJ_)); exact eV_; exact (fun w hw => atp_calls Plt.ex20_valid Plt.ex20_w1 w (ex_plV _ _ _ _ (by exact rL_) hw))) | ((first | ((with_reducible apply o_call_pure (f := 36)); exact rfl) | ((with_reducible apply q_call_pure (f := 36)); exact rfl; kernel_rfl; exact rfl; exact sJ_)); exact eV_; exact (fun w hw => atp_calls Plt.ex20_valid Plt.ex20_w2 w (ex_plV _ _ _ _ (by exact rL_) hw))) | ((first | ((with_reducible apply o_call_pure (f := 36)); exact rfl) | ((with_reducible apply q_call_pure (f := 36)); exact rfl; kernel_rfl; exact rfl; exact sJ_)); exact eV_; exact (fun w hw => atp_calls Plt.ex20_valid Plt.ex20_w3 w (ex_plV _ _ _ _ (by exact rL_) hw))) | ((first | ((with_reducible apply o_call_pure (f := 36)); exact rfl) | ((with_reducible apply q_call_pure (f := 36)); exact rfl; kernel_rfl; exact rfl; exact sJ_)); exact eV_; exact (fun w hw => atp_calls Plt.ex20_valid Plt.ex20_w4 w (ex_plV _ _ _ _ (by exact rL_) hw))) | ((with_reducible first | apply o_move | apply o_assign | apply o_faddr0 | apply o_not_d); exact rfl; exact rfl) | ((with_reducible first | apply o_faddr); exact rfl; exact rfl) | ((with_reducible apply gdo_load); first | refine wo_load (h := ?_) | refine wo_loadAll (h := ?_) | refine wo_loadC (h := ?_) | refine wo_ldV (h := ?_) | refine wo_ldF (h := ?_)) | ((with_reducible first | apply o_eql | apply o_neq | apply o_extract); exact rfl; exact rfl; exact rfl) | ((with_reducible apply gdo_binOp_neq); refine wo_neq_s (h := ?_)) | ((with_reducible apply o_not); exact rfl; exact rfl) | ((with_reducible apply o_pick_f); exact rfl; exact fF_; exact rfl; exact rfl) | ((with_reducible apply o_alloc); exact rfl; intro _) | ((with_reducible apply gdo_store); first | refine wo_store1 (h := ?_) | refine wo_storeA (h := ?_)) | ((with_reducible apply gdo_build); first | refine wo_build (h := ?_)) | ((with_reducible apply o_len); infer_instance; exact rfl; exact rfl) | ((with_reducible apply gdo_buildSlice); refine wo_buildSlice (h := fun _ => ?_)) | ((with_reducible first | apply g_run); exact rfl; exact gG_) | ((with_reducible first | apply c_seq | apply c_block | apply c_region | apply c_nil | apply c_ret | apply c_exit | apply c_skip)) | ((with_reducible apply c_cond_f); exact rfl; exact fF_) | ((with_reducible first | apply e_then | apply e_then_ret | apply e_then_exit | apply e_in | apply e_in_ret | apply e_in_same)) | ((with_reducible first | apply o_appd | apply o_appn)))
  simp only [exN, exQ, sdV, List.cons_append, List.nil_append]
  repeat' (first | ((with_reducible apply o_idx (m := 0)); infer_instance; infer_instance; exact rfl; exact rfl; exact rfl; exact rfl; omega) | ((with_reducible apply o_idx (m := 1)); infer_instance; infer_instance; exact rfl; exact rfl; exact rfl; exact rfl; omega) | ((first | ((with_reducible apply o_call_new (f := 11)); exact rfl) | ((with_reducible apply q_call_new (f := 11)); exact rfl; exact rfl; exact sJ_)); exact eV_; exact (fun w hw => play_calls31 (Plt.calm_of Plt.ex14_valid) w (ex_plV (t := 14) _ _ _ _ (by unfold exN; exact rL_) hw)); rintro v NS_ ⟨as_, cs_, sds, rfl, ⟨hshs, hsl2⟩, oS⟩ <;> (try simp only [List.cons_append, List.nil_append])) | ((with_reducible first | apply o_move | apply o_assign | apply o_faddr0 | apply o_not_d); exact rfl; exact rfl) | ((with_reducible first | apply o_faddr); exact rfl; exact rfl) | ((with_reducible apply gdo_load); first | refine wo_load (h := ?_) | refine wo_loadAll (h := ?_) | refine wo_loadC (h := ?_) | refine wo_ldV (h := ?_) | refine wo_ldF (h := ?_)) | ((with_reducible first | apply o_eql | apply o_neq | apply o_extract); exact rfl; exact rfl; exact rfl) | ((with_reducible apply o_pick_t); exact rfl; exact tT_; exact rfl; exact rfl) | ((with_reducible apply gdo_store); first | refine wo_store1 (h := ?_) | refine wo_storeA (h := ?_)) | ((with_reducible apply o_len); infer_instance; exact rfl; exact rfl) | ((with_reducible first | apply g_run); exact rfl; exact gG_) | ((with_reducible first | apply c_seq | apply c_block | apply c_region | apply c_nil | apply c_ret | apply c_exit | apply c_skip)) | ((with_reducible first | apply e_then | apply e_then_ret | apply e_then_exit | apply e_in | apply e_in_ret | apply e_in_same)))
  refine st_know (fun w' hw' => RunsV.at (hshs _ _ _ _ (by exact rL_) hw') hs0) ?_
  rintro ⟨br, offr, x1, k1, x2, k2, x3, n3, k3, x4, n4, k4, x5, k5, x6, k6, x7, n7, k7, rfl, hd0, hn3, g0⟩
  refine st_know (fun w' hw' => RunsV.at (hshs _ _ _ _ (by exact rL_) hw') hs1) ?_
  rintro ⟨br', offr', y1, l1, y2, l2, y3, m3, l3, y4, m4, l4, y5, l5, y6, l6, y7, m7, l7, ebr, hd1, hm3, g1⟩
  cases ebr
  have hsi : s1.items.length = 0 := by rw [f13]; rfl
  repeat' (first | ((with_reducible apply o_pick_t); exact rfl; exact decide_eq_true (by omega); exact rfl; exact rfl) | ((with_reducible apply g_run); exact rfl; exact decide_eq_true (by omega)) | ((with_reducible apply o_idx (m := 0)); infer_instance; infer_instance; exact rfl; exact rfl; exact rfl; exact rfl; omega) | ((with_reducible apply o_idx (m := 1)); infer_instance; infer_instance; exact rfl; exact rfl; exact rfl; exact rfl; omega) | ((with_reducible apply o_ldP); infer_instance; exact rfl; (intro w' hw'; first | exact SV.cell (hshs _ _ _ _ (by exact rL_) hw').1 hd0 (g0 _ _ rfl) | exact SV.cell (hshs _ _ _ _ (by exact rL_) hw').1 hd1 (g1 _ _ rfl)); exact rfl) | ((first | ((with_reducible apply o_call_pure (f := 36)); exact rfl) | ((with_reducible apply q_call_pure (f := 36)); exact rfl; kernel_rfl; exact rfl; exact sJ_)); exact eV_; exact (fun w hw => atp_calls Plt.ex14_valid Plt.ex14_w w (ex_plV (t := 14) _ _ _ _ (by unfold exN; exact rL_) hw))) | ((with_reducible first | apply o_move | apply o_assign | apply o_faddr0 | apply o_not_d); exact rfl; exact rfl) | ((with_reducible first | apply o_faddr); exact rfl; exact rfl) | ((with_reducible apply gdo_load); first | refine wo_load (h := ?_) | refine wo_loadAll (h := ?_) | refine wo_loadC (h := ?_) | refine wo_ldV (h := ?_) | refine wo_ldF (h := ?_)) | ((with_reducible first | apply o_eql | apply o_neq | apply o_extract); exact rfl; exact rfl; exact rfl) | ((with_reducible apply o_len); infer_instance; exact rfl; exact rfl) | ((with_reducible first | apply c_seq | apply c_block | apply c_region | apply c_nil | apply c_ret | apply c_exit | apply c_skip)) | ((with_reducible first | apply e_then | apply e_then_ret | apply e_then_exit | apply e_in | apply e_in_ret | apply e_in_same)))
  apply r_body; apply res1 Try.results16; exact rV_; intro w' hw
  refine ⟨by simp, hw.below (show AO _ from by exact aO_)⟩
end Go.Proofs.Ytkhaemjoekfhiaa
namespace Go.Sx
open Go Go.RowKit
section
variable {P : Program} {n : Nat} {D : List Deferred} {w0 : World} {F : List (Nat × Value)} {L : List Ent} {J J1 : Made} {Φ : Specs} {X : Act → World → Prop} {kq : Nat} {ops : Array Oper}
variable {d : Tmp} {ty : TypeId} {pos : String} {af : Array Edge} {rest : List Oper}
theorem q_ldPV {t : TypeId} {k : Nat} {x : Operand} {b p : Nat} {l : List Value} (hA : TA P t true) (hS : TS P t k) (hx : ev F x = some (.pointer (some ⟨b, p, none⟩))) (hΦ : Φ kq = none) (hJ : SubJ ((anc ops).getD kq 0) J1 J) (hc : ∀ w, Rep w0 w (ents J1 L) → ∀ j v, l[j]? = some v → w.cell? ⟨b, p + j, none⟩ = some v) (hl : l.length = k)
    (hd : Nat.ble (d + 1) n = true) (h : St n D w0 ((d, .agg l.toArray) :: F) L (WQ P ops w0 L Φ X (kq + 1) J rest)) : St n D w0 F L (WQ P ops w0 L Φ X kq J (⟨some d, .load t x, ty, pos, af, none⟩ :: rest)) :=
  q_val rfl hd hΦ hJ (fun a w ha hw => by
    subst hl
    have hc := run_loadCells_list (P := P) w ⟨b, p, none⟩ l (fun j v hj => by rw [add_none]; exact hc w hw j v hj)
    simp [execOp, ha.eval hx, Instr.loadAt, Instr.sureAddr, loadVar, TA.h (P := P) (t := t), TS.h (P := P) (t := t), hc]) h
end
theorem SV.cell1 {α : Type} {w : World} {k m c b off i : Nat} {enc : α → List Value} {xs : List α} {x : α} {u : Value} (h : SV w k enc (.slice (some ⟨b, off, none⟩) m c) xs) (hx : xs[i]? = some x) (hj : (enc x)[0]? = some u) : w.cell? ⟨b, off + i * k, none⟩ = some u := h.cell (j := 0) hx hj
end Go.Sx
namespace Go.Proofs.Ytkhaemjoekfhiaa
open Go Go.Sx Go.RowKit
attribute [local irreducible] WL WC WQ WR WB WF QB St Exit.then Exit.inBlock Exit.noGoto bodyPost roundPost beginK YR RG BM Calls B AgainD MeetD
/-! ## a plant that built made, as it lies -/
theorem built_plv {p : Plt.Plant} {am ai ap : Option Addr} {cm ci cp : Nat} {ds : List MD} {ys : List PD} {NM NI NP NX : List Ent} {TM TI TP : TypeId} (hM : OW TM 5 encMD (.slice am p.ms.length cm) ds NM) (hI : OW TI 3 encItem (.slice ai p.items.length ci) p.items NI) (hP : OW TP 6 encPD (.slice ap p.passes.length cp) ys NP)
    (hl : ds.length = p.ms.length ∧ ys.length = p.passes.length) (hX : Shw NX (fun w => ∀ (i : Nat) (d : MD) (m : Plt.Mach), ds[i]? = some d → p.ms[i]? = some m → MachV w d m)) (hY : Shw NX (fun w => ∀ (i : Nat) (d : PD) (y : Plt.Pass), ys[i]? = some d → p.passes[i]? = some y → PassV w d y)) :
    Shw (NM ++ (NI ++ (NP ++ NX))) (fun w => PlV w ⟨(am, p.ms.length, cm), (ai, p.items.length, ci), (ap, p.passes.length, cp), ds, ys⟩ p) := fun w0 w L L0 hr hw =>
  ⟨(Shw.left (Shw.ow encMD_len hM)) w0 w L L0 hr hw, (Shw.right (Shw.left (Shw.ow encItem_len hI))) w0 w L L0 hr hw, (Shw.right (Shw.right (Shw.left (Shw.ow encPD_len hP)))) w0 w L L0 hr hw, hl.1, hl.2,
    (Shw.right (Shw.right (Shw.right hX))) w0 w L L0 hr hw, (Shw.right (Shw.right (Shw.right hY))) w0 w L L0 hr hw⟩
def builtψ (p : Plt.Plant) (v : Value) (N : List Ent) : Prop := ∃ am cm ai ci ap cp ds ys, v = .agg #[.slice am p.ms.length cm, .slice ai p.items.length ci, .slice ap p.passes.length cp] ∧
  Shw N (fun w => PlV w ⟨(am, p.ms.length, cm), (ai, p.items.length, ci), (ap, p.passes.length, cp), ds, ys⟩ p) ∧ ∀ x ∈ N, x.own = true
theorem built_is {v0 v1 v2 v3 : Value} {x : Plt.Sk} {p : Plt.Plant} (hp : Plt.built x = p) (w : World) (h0 : SV w 1 encB v0 x.ms) (h1 : SV w 1 encB v1 x.shs) (h2 : SV w 1 encB v2 x.its) (h3 : SV w 1 encB v3 x.ps) :
    Calls Try.prog 10 #[.agg #[v0, v1, v2, v3]] w fun e w' => ∃ v N, e = .returned v ∧ builtψ p v N ∧ Rep w w' N ∧ ∀ x ∈ N, x.own = true := by
  subst hp
  refine (built_calls w h0 h1 h2 h3).mono fun e w' ⟨v, N, h1, h2, h3, h4⟩ => ⟨v, N, h1, ?_, h3, h4⟩
  obtain ⟨am, cm, ai, ci, ap, cp, ds, ys, NM, NI, NP, NX, hv, ⟨gM, gI, gP⟩, ⟨hN, oX⟩, hl, hMX, hPX⟩ := h2
  subst hN
  exact ⟨am, cm, ai, ci, ap, cp, ds, ys, hv, built_plv gM gI gP hl hMX hPX, h4⟩
/-- What the laws know of a plant that built made. -/
structure Nice (p : Plt.Plant) : Prop where
  valid : Plt.validF p = (0, 0)
  ms : 1 ≤ p.ms.length ∧ p.ms.length ≤ 3
  items : p.items.length ≤ 40
  passes : p.passes.length ≤ 6
theorem nice_built (x : Plt.Sk) : Nice (Plt.built x) :=
  ⟨Plt.built_valid x, Plt.bMs_len x, by show (Plt.bIs x).length ≤ 40; unfold Plt.bIs; rw [Plt.bIsN_len]; omega, by show (Plt.bAt (Plt.bMs x) (Plt.bIs x) x.ps (min x.ps.length 6)).2.length ≤ 6; rw [Plt.bAt_len]; omega⟩
/-- What a call of a law knows of one run. -/
theorem run_slices {p : Plt.Plant} (hc : Plt.Calm p) {i : Nat} {y : Plt.Pass} {r : Plt.Run} (hy : p.passes[i]? = some y) (hr : (Plt.playF p)[i]? = some r) : r.slices.length ≤ 200 ∧ ∀ s ∈ r.slices, 0 ≤ s.1 ∧ s.1 ≤ s.2 ∧ s.2 ≤ 1051898399 := by
  have h := Plt.runF_slices (stops := Plt.stopsF p.items) (hc.job i y hy)
  have hg := Plt.playF_get hy
  rw [hr] at hg
  rw [← Option.some.inj hg] at h
  exact h
end Go.Proofs.Ytkhaemjoekfhiaa
namespace Go.Sx.Plt
/-! ## the last run that has sorted an item -/
def lastI : Option Nat → Int
  | none => -1
  | some k => k
/-- The same, after the first n items of run k. -/
def keepsF (p : Plant) (x t : Int) (k : Nat) (r : Run) (n : Nat) : Int := if x ∈ r.items.take n ∧ sortedAt p x t k = true then (k : Int) else lastI (lastF p x t k)
theorem keeps_zero (p : Plant) (x t : Int) (k : Nat) (r : Run) : keepsF p x t k r 0 = lastI (lastF p x t k) := by unfold keepsF; rw [if_neg (by simp)]
theorem keeps_miss {p : Plant} {x t : Int} {k : Nat} {r : Run} {n : Nat} {z : Int} (h : r.items[n]? = some z) (hz : z ≠ x) : keepsF p x t k r (n + 1) = keepsF p x t k r n := by
  unfold keepsF
  rw [Go.Proofs.Ytkhaemjoekfhiaa.take_snoc h]
  have : x ∈ r.items.take n ++ [z] ↔ x ∈ r.items.take n := by rw [List.mem_append, List.mem_singleton]; exact ⟨fun h => h.resolve_right (fun e => hz e.symm), .inl⟩
  simp only [this]
theorem minI_lt {l : List (Int × Int)} (hl : ∀ s ∈ l, 0 ≤ s.1 ∧ s.1 ≤ s.2 ∧ s.2 ≤ 1051898399) {q : Int} (hq : 0 ≤ q) : (minuteF l q = none → minI l q = -1) ∧ ∀ m, minuteF l q = some m → minI l q = m ∧ 0 ≤ m := by
  refine ⟨fun h => by unfold minI; rw [h], fun m h => ⟨by unfold minI; rw [h], ?_⟩⟩
  induction l generalizing q with
  | nil => simp [minuteF] at h
  | cons s r ih =>
    rw [minuteF] at h
    have hs := hl s List.mem_cons_self
    split at h
    · cases h; omega
    · exact ih (fun s hs => hl s (List.mem_cons_of_mem _ hs)) (by omega) h
theorem keeps_hit {p : Plant} {x t : Int} {k : Nat} {r : Run} {n : Nat} {y : Pass} {rate v : Int} (hr : (playF p)[k]? = some r) (hy : p.passes[k]? = some y) (hm : (machF p.ms y.mach).rate = rate) (hn : r.items.Nodup) (h : r.items[n]? = some x) (hrate : 1 ≤ rate) (hl : ∀ s ∈ r.slices, 0 ≤ s.1 ∧ s.1 ≤ s.2 ∧ s.2 ≤ 1051898399) (hv : minI r.slices ((n : Int) / rate) = v) :
    keepsF p x t k r n = lastI (lastF p x t k) ∧ keepsF p x t k r (n + 1) = if 0 ≤ v ∧ v < t then (k : Int) else lastI (lastF p x t k) := by
  have hno : ∀ j, j < n → r.items[j]? ≠ some x := fun j hj e => by
    obtain ⟨l1, f1⟩ := List.getElem?_eq_some_iff.1 e
    obtain ⟨l2, f2⟩ := List.getElem?_eq_some_iff.1 h
    have := List.pairwise_iff_getElem.1 hn j n l1 l2 hj
    rw [f1, f2] at this
    exact this rfl
  have hout : x ∉ r.items.take n := fun hx => by
    obtain ⟨j, hj⟩ := List.getElem?_of_mem hx
    rw [List.getElem?_take] at hj
    split at hj
    · rename_i hjn; exact hno j hjn hj
    · cases hj
  have hix : idxF x r.items = some n := idxF_at hno h
  have hq : 0 ≤ (n : Int) / rate := Int.ediv_nonneg (by omega) (by omega)
  obtain ⟨g1, g2⟩ := minI_lt hl hq
  have hs : sortedAt p x t k = true ↔ 0 ≤ v ∧ v < t := by
    unfold sortedAt
    rw [hr, hy]
    dsimp only
    rw [hm]
    unfold sortedF
    rw [hix]
    dsimp only
    cases hmi : minuteF r.slices ((n : Int) / rate) with
    | none => have := g1 hmi; rw [hv] at this; simp; omega
    | some m => have := g2 m hmi; rw [hv] at this; simp; omega
  refine ⟨by unfold keepsF; rw [if_neg (fun hh => hout hh.1)], ?_⟩
  unfold keepsF
  rw [Go.Proofs.Ytkhaemjoekfhiaa.take_snoc h]
  by_cases hc : 0 ≤ v ∧ v < t
  · rw [if_pos hc, if_pos ⟨by simp, hs.2 hc⟩]
  · rw [if_neg hc, if_neg (fun hh => hc (hs.1 hh.2))]
theorem keeps_end {p : Plant} {x t : Int} {k : Nat} {r : Run} (hr : (playF p)[k]? = some r) : keepsF p x t k r r.items.length = lastI (lastF p x t (k + 1)) := by
  unfold keepsF
  rw [List.take_length, lastF]
  by_cases hs : sortedAt p x t k = true
  · rw [if_pos hs]
    have hx : x ∈ r.items := by
      unfold sortedAt at hs
      rw [hr] at hs
      split at hs
      · rename_i r' y h1 _
        cases h1
        unfold sortedF at hs
        split at hs
        · cases hs
        · rename_i i hi
          exact List.mem_of_getElem? (idxF_some hi).1
      · cases hs
    rw [if_pos ⟨hx, hs⟩]; rfl
  · rw [if_neg hs, if_neg (fun hh => hs hh.2)]
/-- Where an item is, by the last run that has sorted it. -/
theorem lastF_some {p : Plant} {x t : Int} {k : Nat} : ∀ {n : Nat}, lastF p x t n = some k → k < n ∧ sortedAt p x t k = true
  | 0, h => by simp [lastF] at h
  | n + 1, h => by
    rw [lastF] at h
    split at h
    · rename_i hs; cases h; exact ⟨by omega, hs⟩
    · have := lastF_some h; exact ⟨by omega, this.2⟩
theorem sorted_mem {p : Plant} {x t : Int} {k : Nat} (h : sortedAt p x t k = true) : ∃ r y, (playF p)[k]? = some r ∧ p.passes[k]? = some y ∧ x ∈ r.items := by
  unfold sortedAt at h
  split at h
  · rename_i r y h1 h2
    refine ⟨r, y, h1, h2, ?_⟩
    unfold sortedF at h
    split at h
    · cases h
    · rename_i i hi
      exact List.mem_of_getElem? (idxF_some hi).1
  · cases h
theorem idx_items {p : Plant} (hn : (p.items.map Item.id).Nodup) {i : Nat} {y : Item} (h : p.items[i]? = some y) : idxF y.id (p.items.map Item.id) = some i := by
  refine idxF_at (fun j hj e => ?_) (by rw [List.getElem?_map, h]; rfl)
  obtain ⟨l1, f1⟩ := List.getElem?_eq_some_iff.1 e
  obtain ⟨l2, f2⟩ := List.getElem?_eq_some_iff.1 (show (p.items.map Item.id)[i]? = some y.id by rw [List.getElem?_map, h]; rfl)
  have := List.pairwise_iff_getElem.1 hn j i l1 l2 hj
  rw [f1, f2] at this
  exact this rfl
theorem where_at {p : Plant} (hn : (p.items.map Item.id).Nodup) {i : Nat} {y : Item} (h : p.items[i]? = some y) {t : Int} (ht : 0 ≤ t ∧ t ≤ 1051898399) : whereF p y.id t = (match lastF p y.id t p.passes.length with
    | some n => (match (playF p)[n]? with | some r => placeF r y.id | none => (0, 0, 0))
    | none => (1, 0, y.batch), 0) := by
  unfold whereF
  rw [idx_items hn h]
  dsimp only
  rw [if_neg (by omega), if_neg (by omega), h]
  cases lastF p y.id t p.passes.length <;> rfl
end Go.Sx.Plt
namespace Go.Proofs.Ytkhaemjoekfhiaa
open Go Go.Sx Go.RowKit
section
variable {r : Option Nat} {P : Program} {n : Nat} {D : List Deferred} {w0 : World} {F : List (Nat × Value)} {L : List Ent} {Q : Exit → Act → World → Prop} {ops : Array Oper}
variable {d : Tmp} {ty : TypeId} {pos : String} {af : Array Edge} {rest : List Oper}
theorem o_rem8E {x y : Operand} {m l v : Int} {t u : TypeId} (hx : ev F x = some (.int .u8 m)) (hy : ev F y = some (.int .u8 l)) (e : m % l = v) (hr : 0 ≤ m ∧ 0 < l) (hd : Nat.ble (d + 1) n = true)
    (h : St n D w0 ((d, .int .u8 v) :: F) L (WL r P ops Q rest)) : St n D w0 F L (WL r P ops Q (⟨some d, .binOp .rem t x y u, ty, pos, af, none⟩ :: rest)) :=
  o_rem_w hx hy hd (by omega) (by rw [Int.tmod_eq_emod_of_nonneg hr.1, e]; exact h)
end
attribute [local irreducible] WL WC WQ WR WB WF QB St Exit.then Exit.inBlock Exit.noGoto bodyPost roundPost beginK YR RG BM Calls B AgainD MeetD
theorem holds_is {d : RD} {r : Plt.Run} {x kd ps nu : Int} {b : Bool} (hkd : kd = 2 ∨ kd = 3 ∨ kd = 4) (hb : Plt.allN r x r.res.stackers.length ≤ 1000000) (hh : decide (Plt.holdsF r x kd ps nu) = b) (w : World) (h : RunV w d r) :
    Calls Try.prog 15 #[runDV d, .int .i64 x, .agg #[.int .u8 kd, .int .i64 ps, .int .i64 nu]] w fun e w' => e = .returned (.bool b) ∧ Below w.heap.size w w' := by
  subst hh; exact holds_calls hkd hb w h
theorem holds_yes {d : RD} {r : Plt.Run} {x kd ps nu : Int} (hkd : kd = 2 ∨ kd = 3 ∨ kd = 4) (hb : Plt.allN r x r.res.stackers.length ≤ 1000000) (hh : Plt.holdsF r x kd ps nu) (w : World) (h : RunV w d r) :
    Calls Try.prog 15 #[runDV d, .int .i64 x, .agg #[.int .u8 kd, .int .i64 ps, .int .i64 nu]] w fun e w' => e = .returned (.bool true) ∧ Below w.heap.size w w' := holds_is hkd hb (decide_eq_true hh) w h
/-! ## PlantKeeps -/
set_option maxHeartbeats 16000000 in
set_option maxRecDepth 100000 in
theorem keeps_calls {v0 v1 v2 v3 : Value} {x : Plt.Sk} {t8 : Int} (w : World) (h0 : SV w 1 encB v0 x.ms) (h1 : SV w 1 encB v1 x.shs) (h2 : SV w 1 encB v2 x.its) (h3 : SV w 1 encB v3 x.ps) (ht8 : 0 ≤ t8 ∧ t8 ≤ 255) :
    Calls Try.prog 3 #[.agg #[v0, v1, v2, v3], .int .u8 t8] w fun e w' => e = .returned (.bool true) ∧ Below w.heap.size w w' := by
  obtain ⟨p, hp⟩ : ∃ p, Plt.built x = p := ⟨_, rfl⟩
  have hbt := fun (w' : World) (L : List Ent) (hw : Rep w w' L) (ho : AO L) => built_is hp w' (h0.keep hw ho) (h1.keep hw ho) (h2.keep hw ho) (h3.keep hw ho)
  have hnice := nice_built x
  rw [hp] at hnice
  have hv := Plt.valid_of hnice.valid
  have hcalm := Plt.calm_of hnice.valid
  have hil := hnice.items
  have hpl := hnice.passes
  have hrl0 := Plt.playF_len p
  obtain ⟨t, ht⟩ : ∃ t, t8 % 128 = t := ⟨_, rfl⟩
  have ht0 : 0 ≤ t ∧ t ≤ 127 := by omega
  clear h0 h1 h2 h3
  refine f_enter2 Try.func3 rfl Try.ntmps3 rfl (Rep.start w) ?_
  repeat' (first | ((with_reducible apply o_rem8E (v := t)); exact rfl; exact rfl; exact ht; omega; exact rfl) | ((with_reducible apply o_conv8); infer_instance; infer_instance; exact rfl; (constructor <;> omega); exact rfl) | ((with_reducible apply c_cond_f); exact rfl; exact decide_eq_false (by omega)) | ((with_reducible apply o_pick_f); exact rfl; exact decide_eq_false (by omega); exact rfl; exact rfl) | ((with_reducible apply g_run); exact rfl; exact decide_eq_false (by omega)) | ((first | ((with_reducible apply o_call_new (f := 10)); exact rfl) | ((with_reducible apply q_call_new (f := 10)); exact rfl; exact rfl; exact sJ_)); exact eV_; exact (fun w hw => hbt w _ hw (by exact aO_)); rintro v NB ⟨am, cm, ai, ci, ap, cp, ds, ys, rfl, hB, oB⟩ <;> (try simp only [List.cons_append, List.nil_append])) | ((first | ((with_reducible apply o_call_new (f := 11)); exact rfl) | ((with_reducible apply q_call_new (f := 11)); exact rfl; exact rfl; exact sJ_)); exact eV_; exact (fun w hw => play_calls31 hcalm w (hB _ _ _ _ (by exact rL_) hw)); rintro v NR ⟨ar, cr, rds, rfl, ⟨hR, hrl⟩, oR⟩ <;> (try simp only [List.cons_append, List.nil_append])) | ((first | ((with_reducible apply o_call_pure (f := 12)); exact rfl) | ((with_reducible apply q_call_pure (f := 12)); exact rfl; kernel_rfl; exact rfl; exact sJ_)); exact eV_; exact (fun w hw => valid_is hnice.valid w (hB _ _ _ _ (by exact rL_) hw))) | ((with_reducible first | apply o_move | apply o_assign | apply o_faddr0 | apply o_not_d | apply o_conv); exact rfl; exact rfl) | ((with_reducible apply gdo_load); first | refine wo_load (h := ?_) | refine wo_loadAll (h := ?_) | refine wo_loadC (h := ?_) | refine wo_ldV (h := ?_) | refine wo_ldF (h := ?_)) | ((with_reducible first | apply o_lss | apply o_geq | apply o_eql | apply o_neq | apply o_extract); exact rfl; exact rfl; exact rfl) | ((with_reducible apply o_add); exact rfl; exact rfl; exact rfl; (constructor <;> omega)) | ((with_reducible apply o_alloc); exact rfl; intro _) | ((with_reducible apply o_box); exact rfl; exact rfl; exact rfl; intro _) | ((with_reducible apply gdo_store); first | refine wo_store1 (h := ?_) | refine wo_storeA (h := ?_)) | ((with_reducible apply o_len); infer_instance; exact rfl; exact rfl) | ((with_reducible first | apply c_seq | apply c_block | apply c_region | apply c_nil | apply c_ret | apply c_exit | apply c_skip)) | ((with_reducible first | apply e_then | apply e_then_ret | apply e_then_exit | apply e_in | apply e_in_ret | apply e_in_same)))
  rename_i b2 b5
  apply c_loop (σ := Nat) (Fs := fun i => [(55, .int .i64 i), (54, .int .i64 p.items.length), (53, .slice ai p.items.length ci), (7, .slice ar (Plt.playF p).length cr), (6, .int .i64 t), (5, ptr b5)])
    (Ls := fun i => NR ++ (⟨b5, Ce [.slice am p.ms.length cm, .slice ai p.items.length ci, .slice ap p.passes.length cp] 29, true⟩ :: (NB ++ []))) (I := fun i => i ≤ p.items.length) (μ := fun i => p.items.length - i) (s0 := 0)
  · exact Nat.zero_le _
  · exact fS_
  · exact hS_
  intro i hi
  have hi : i ≤ p.items.length := hi
  by_cases hlt : i < p.items.length
  · obtain ⟨⟨xi, xs, xb⟩, hx⟩ : ∃ y, p.items[i]? = some y := ⟨_, List.getElem?_eq_getElem hlt⟩
    have hwh := Plt.where_at hv.ind hx (t := t) (by omega)
    dsimp only at hwh
    refine st_know (fun w' hw' => SV.ptr (hB _ _ _ _ (by exact rL_) hw').items hx) ?_
    rintro ⟨bI, oI, rfl⟩
    obtain ⟨⟨⟨kd, ps, nu⟩, k0⟩, hwe⟩ : ∃ z, Plt.whereF p xi t = z := ⟨_, rfl⟩
    rw [hwe] at hwh
    obtain ⟨hwh, rfl⟩ : (kd, ps, nu) = _ ∧ k0 = 0 := Prod.mk.inj hwh
    repeat' (first | ((with_reducible apply c_cond_t); exact rfl; exact decide_eq_true (by omega)) | ((with_reducible apply c_cond_f); exact rfl; exact decide_eq_false (by omega)) | ((with_reducible apply o_ldPV (l := [.int .i64 xi, .int .i64 xs, .int .i64 xb])); infer_instance; infer_instance; exact rfl; (intro w' hw' j' v' hj'; exact SV.cell (hB _ _ _ _ (by exact rL_) hw').items hx hj'); exact rfl; exact rfl) | ((first | ((with_reducible apply o_call_pure (f := 13)); exact rfl) | ((with_reducible apply q_call_pure (f := 13)); exact rfl; kernel_rfl; exact rfl; exact sJ_)); exact eV_; exact (fun w hw => where_calls hcalm hwe w (hB _ _ _ _ (by exact rL_) hw))) | ((with_reducible first | apply o_move | apply o_assign | apply o_faddr0 | apply o_not_d | apply o_conv); exact rfl; exact rfl) | ((with_reducible apply gdo_load); first | refine wo_load (h := ?_) | refine wo_loadAll (h := ?_) | refine wo_loadC (h := ?_) | refine wo_ldV (h := ?_) | refine wo_ldF (h := ?_)) | ((with_reducible first | apply o_lss | apply o_geq | apply o_eql | apply o_neq | apply o_extract); exact rfl; exact rfl; exact rfl) | ((with_reducible apply o_alloc); exact rfl; intro _) | ((with_reducible apply gdo_store); first | refine wo_store1 (h := ?_) | refine wo_storeA (h := ?_)) | ((with_reducible apply o_len); infer_instance; exact rfl; exact rfl) | ((with_reducible apply o_idx); infer_instance; infer_instance; exact rfl; exact rfl; (first | exact rfl | omega); exact rfl; (first | assumption | omega | decide)) | ((with_reducible first | apply c_seq | apply c_block | apply c_region | apply c_nil | apply c_ret | apply c_exit | apply c_skip)) | ((with_reducible first | apply e_then | apply e_then_ret | apply e_then_exit | apply e_in | apply e_in_ret | apply e_in_same)))
    rename_i b12 b13
    apply c_loop (σ := Nat) (Fs := fun k => [(71, .int .i64 k), (70, .int .i64 (Plt.playF p).length), (69, .slice ar (Plt.playF p).length cr), (15, .int .i64 (Plt.lastI (Plt.lastF p xi t k))), (13, ptr b13), (12, ptr b12), (55, .int .i64 i), (54, .int .i64 p.items.length), (53, .slice (some ⟨bI, oI, none⟩) p.items.length ci), (7, .slice ar (Plt.playF p).length cr), (6, .int .i64 t), (5, ptr b5)])
      (Ls := fun k => ⟨b13, Ce [.int .u8 kd, .int .i64 ps, .int .i64 nu] 40, true⟩ :: ⟨b12, Ce [.int .i64 xi, .int .i64 xs, .int .i64 xb] 38, true⟩ :: (NR ++ (⟨b5, Ce [.slice am p.ms.length cm, .slice (some ⟨bI, oI, none⟩) p.items.length ci, .slice ap p.passes.length cp] 29, true⟩ :: (NB ++ [])))) (I := fun k => k ≤ (Plt.playF p).length) (μ := fun k => (Plt.playF p).length - k) (s0 := 0)
    · exact Nat.zero_le _
    · exact fS_
    · exact hS_
    intro k hk
    have hk : k ≤ (Plt.playF p).length := hk
    by_cases hlt2 : k < (Plt.playF p).length
    · obtain ⟨r, hr⟩ : ∃ r, (Plt.playF p)[k]? = some r := ⟨_, List.getElem?_eq_getElem hlt2⟩
      obtain ⟨y, hy⟩ : ∃ y, p.passes[k]? = some y := ⟨_, List.getElem?_eq_getElem (by omega)⟩
      obtain ⟨hsn, hsb⟩ := run_slices hcalm hy hr
      obtain ⟨j, m, hm, hmid, hmr, -, -, -, hcs⟩ := hv.run hy hr
      have hmf : (Plt.machF p.ms y.mach).rate = m.rate := by rw [← hmid, Plt.machF_of hv.mnd hm]
      have hrate := hmr.2.1
      have hitn : r.items.Nodup ∧ r.items.length ≤ 2000 := by
        rcases hcs with hc | ⟨ready, hc⟩
        · rw [hc.eq]; exact ⟨List.nodup_nil, Nat.zero_le _⟩
        · refine ⟨?_, ?_⟩
          · have := (Plt.srun_feeds hc.res).2.2
            rwa [Plt.feed_items] at this
          · rw [hc.items hv hy]; exact hv.taken_len hy
      refine st_know (fun w' hw' => RunsV.at (hR _ _ _ _ (by exact rL_) hw') hr) ?_
      rintro ⟨br, offr, x1, k1, x2, k2, x3, n3, k3, x4, n4, k4, x5, k5, x6, k6, x7, n7, k7, rfl, hd, hn3, g0⟩
      repeat' (first | ((with_reducible apply c_cond_t); exact rfl; exact decide_eq_true (by omega)) | ((with_reducible apply o_ldPV (l := [.int .i64 r.pass, .int .i64 r.start, .int .i64 r.fin, .slice x1 r.items.length k1, .slice x2 r.slices.length k2, .slice x3 n3 k3, .slice x4 n4 k4, .slice x5 r.res.over.length k5, .slice x6 r.res.rej.length k6, .slice x7 n7 k7])); infer_instance; infer_instance; exact rfl; (intro w' hw' j' v' hj'; exact SV.cell (hR _ _ _ _ (by exact rL_) hw').1 hd (g0 _ _ hj')); exact rfl; exact rfl) | ((with_reducible first | apply o_move | apply o_assign | apply o_faddr0 | apply o_not_d | apply o_conv); exact rfl; exact rfl) | ((with_reducible apply gdo_load); first | refine wo_load (h := ?_) | refine wo_loadAll (h := ?_) | refine wo_loadC (h := ?_) | refine wo_ldV (h := ?_) | refine wo_ldF (h := ?_)) | ((with_reducible first | apply o_lss | apply o_geq | apply o_eql | apply o_neq | apply o_extract); exact rfl; exact rfl; exact rfl) | ((with_reducible apply o_alloc); exact rfl; intro _) | ((with_reducible apply gdo_store); first | refine wo_store1 (h := ?_) | refine wo_storeA (h := ?_)) | ((with_reducible apply o_len); infer_instance; exact rfl; exact rfl) | ((with_reducible apply o_idx); infer_instance; infer_instance; exact rfl; exact rfl; (first | exact rfl | omega); exact rfl; (first | assumption | omega | decide)) | ((with_reducible first | apply c_seq | apply c_block | apply c_region | apply c_nil | apply c_ret | apply c_exit | apply c_skip)) | ((with_reducible first | apply e_then | apply e_then_ret | apply e_then_exit | apply e_in | apply e_in_ret | apply e_in_same)))
      rename_i b17
      apply c_loop (σ := Nat) (Fs := fun n => [(79, .int .i64 n), (78, .int .i64 r.items.length), (77, .slice x1 r.items.length k1), (17, ptr b17), (16, .int .i64 k), (15, .int .i64 (Plt.keepsF p xi t k r n)), (71, .int .i64 k), (70, .int .i64 (Plt.playF p).length), (69, .slice (some ⟨br, offr, none⟩) (Plt.playF p).length cr), (13, ptr b13), (12, ptr b12), (55, .int .i64 i), (54, .int .i64 p.items.length), (53, .slice (some ⟨bI, oI, none⟩) p.items.length ci), (7, .slice (some ⟨br, offr, none⟩) (Plt.playF p).length cr), (6, .int .i64 t), (5, ptr b5)])
        (Ls := fun n => ⟨b17, Ce [.int .i64 r.pass, .int .i64 r.start, .int .i64 r.fin, .slice x1 r.items.length k1, .slice x2 r.slices.length k2, .slice x3 n3 k3, .slice x4 n4 k4, .slice x5 r.res.over.length k5, .slice x6 r.res.rej.length k6, .slice x7 n7 k7] 50, true⟩ :: ⟨b13, Ce [.int .u8 kd, .int .i64 ps, .int .i64 nu] 40, true⟩ :: ⟨b12, Ce [.int .i64 xi, .int .i64 xs, .int .i64 xb] 38, true⟩ :: (NR ++ (⟨b5, Ce [.slice am p.ms.length cm, .slice (some ⟨bI, oI, none⟩) p.items.length ci, .slice ap p.passes.length cp] 29, true⟩ :: (NB ++ [])))) (I := fun n => n ≤ r.items.length) (μ := fun n => r.items.length - n) (s0 := 0)
      · exact Nat.zero_le _
      · (try dsimp only); rw [Plt.keeps_zero]; exact fS_
      · exact hS_
      intro n hn
      have hn : n ≤ r.items.length := hn
      by_cases hlt3 : n < r.items.length
      · obtain ⟨z, hz⟩ : ∃ z, r.items[n]? = some z := ⟨_, List.getElem?_eq_getElem hlt3⟩
        refine st_know (fun w' hw' => SV.ptr ((hR _ _ _ _ (by exact rL_) hw').2.2 k _ _ hd hr).items hz) ?_
        rintro ⟨bz, oz, rfl⟩
        obtain ⟨v, hvv⟩ : ∃ v, Plt.minI r.slices ((n : Int) / m.rate) = v := ⟨_, rfl⟩
        by_cases hzx : z = xi
        · subst hzx
          obtain ⟨e1, e2⟩ := Plt.keeps_hit (t := t) hr hy hmf hitn.1 hz hrate.1 hsb hvv
          rw [e1]
          by_cases hvt : 0 ≤ v ∧ v < t
          · rw [if_pos hvt] at e2
            as_aux_lemma =>
              repeat' (first | ((with_reducible apply c_cond_t); exact rfl; exact decide_eq_true (by omega)) | ((with_reducible apply o_pick_t); exact rfl; exact decide_eq_true (by omega); exact rfl; exact rfl) | ((with_reducible apply g_run); exact rfl; exact decide_eq_true (by omega)) | ((with_reducible apply o_ldP); infer_instance; exact rfl; (intro w' hw'; exact SV.cell1 ((hR _ _ _ _ (by exact rL_) hw').2.2 k _ _ hd hr).items hz rfl); exact rfl) | ((first | ((with_reducible apply o_call_pure (f := 14)); exact rfl) | ((with_reducible apply q_call_pure (f := 14)); exact rfl; kernel_rfl; exact rfl; exact sJ_)); exact eV_; exact (fun w hw => minute_calls hv.mnd hy hm hmid (by omega) (by omega) hsb (by omega) hvv w (hB _ _ _ _ (by exact rL_) hw) ((hR _ _ _ _ (by exact rL_) hw).2.2 k _ _ hd hr))) | ((with_reducible first | apply o_move | apply o_assign | apply o_faddr0 | apply o_not_d | apply o_conv); exact rfl; exact rfl) | ((with_reducible apply gdo_load); first | refine wo_load (h := ?_) | refine wo_loadAll (h := ?_) | refine wo_loadC (h := ?_) | refine wo_ldV (h := ?_) | refine wo_ldF (h := ?_)) | ((with_reducible first | apply o_lss | apply o_geq | apply o_eql | apply o_neq | apply o_extract); exact rfl; exact rfl; exact rfl) | ((with_reducible apply o_add); exact rfl; exact rfl; exact rfl; (constructor <;> omega)) | ((with_reducible apply o_idx); infer_instance; infer_instance; exact rfl; exact rfl; (first | exact rfl | omega); exact rfl; (first | assumption | omega | decide)) | ((with_reducible first | apply c_seq | apply c_block | apply c_region | apply c_nil | apply c_ret | apply c_exit | apply c_skip)) | ((with_reducible first | apply e_then | apply e_then_ret | apply e_then_exit | apply e_in | apply e_in_ret | apply e_in_same)))
              refine l_again (n + 1) (show n + 1 ≤ r.items.length by omega) (show r.items.length - (n + 1) < r.items.length - n by omega) ?_ ?_
              · rw [e2]; exact fS_
              · exact hS_
          · rw [if_neg hvt] at e2
            as_aux_lemma =>
              repeat' (first | ((with_reducible apply c_cond_t); exact rfl; exact decide_eq_true (by omega)) | ((with_reducible apply c_cond_f); exact rfl; exact decide_eq_false (by omega)) | ((with_reducible apply o_pick_t); exact rfl; exact decide_eq_true (by omega); exact rfl; exact rfl) | ((with_reducible apply o_pick_f); exact rfl; exact decide_eq_false (by omega); exact rfl; exact rfl) | ((with_reducible apply g_run); exact rfl; exact decide_eq_true (by omega)) | ((with_reducible apply g_skip); exact rfl; exact decide_eq_false (by omega); exact rfl) | ((with_reducible apply o_ldP); infer_instance; exact rfl; (intro w' hw'; exact SV.cell1 ((hR _ _ _ _ (by exact rL_) hw').2.2 k _ _ hd hr).items hz rfl); exact rfl) | ((first | ((with_reducible apply o_call_pure (f := 14)); exact rfl) | ((with_reducible apply q_call_pure (f := 14)); exact rfl; kernel_rfl; exact rfl; exact sJ_)); exact eV_; exact (fun w hw => minute_calls hv.mnd hy hm hmid (by omega) (by omega) hsb (by omega) hvv w (hB _ _ _ _ (by exact rL_) hw) ((hR _ _ _ _ (by exact rL_) hw).2.2 k _ _ hd hr))) | ((with_reducible first | apply o_move | apply o_assign | apply o_faddr0 | apply o_not_d | apply o_conv); exact rfl; exact rfl) | ((with_reducible apply gdo_load); first | refine wo_load (h := ?_) | refine wo_loadAll (h := ?_) | refine wo_loadC (h := ?_) | refine wo_ldV (h := ?_) | refine wo_ldF (h := ?_)) | ((with_reducible first | apply o_lss | apply o_geq | apply o_eql | apply o_neq | apply o_extract); exact rfl; exact rfl; exact rfl) | ((with_reducible apply o_add); exact rfl; exact rfl; exact rfl; (constructor <;> omega)) | ((with_reducible apply o_idx); infer_instance; infer_instance; exact rfl; exact rfl; (first | exact rfl | omega); exact rfl; (first | assumption | omega | decide)) | ((with_reducible first | apply c_seq | apply c_block | apply c_region | apply c_nil | apply c_ret | apply c_exit | apply c_skip)) | ((with_reducible apply c_cond_f); exact rfl; exact fF_) | ((with_reducible first | apply e_then | apply e_then_ret | apply e_then_exit | apply e_in | apply e_in_ret | apply e_in_same)) | ((with_reducible apply g_split_d); exact rfl; intro hcond; rotate_left; intro hcond; rotate_left))
              all_goals try (exfalso; omega)
              all_goals
                refine l_again (n + 1) (show n + 1 ≤ r.items.length by omega) (show r.items.length - (n + 1) < r.items.length - n by omega) ?_ ?_
                · rw [e2]; exact fS_
                · exact hS_
        · have e1 := Plt.keeps_miss (p := p) (t := t) (k := k) hz hzx
          as_aux_lemma =>
            repeat' (first | ((with_reducible apply c_cond_t); exact rfl; exact decide_eq_true (by omega)) | ((with_reducible apply o_pick_f); exact rfl; exact decide_eq_false (by omega); exact rfl; exact rfl) | ((with_reducible apply g_skip); exact rfl; exact decide_eq_false (by omega); exact rfl) | ((with_reducible apply o_ldP); infer_instance; exact rfl; (intro w' hw'; exact SV.cell1 ((hR _ _ _ _ (by exact rL_) hw').2.2 k _ _ hd hr).items hz rfl); exact rfl) | ((first | ((with_reducible apply o_call_pure (f := 14)); exact rfl) | ((with_reducible apply q_call_pure (f := 14)); exact rfl; kernel_rfl; exact rfl; exact sJ_)); exact eV_; exact (fun w hw => minute_calls hv.mnd hy hm hmid (by omega) (by omega) hsb (by omega) hvv w (hB _ _ _ _ (by exact rL_) hw) ((hR _ _ _ _ (by exact rL_) hw).2.2 k _ _ hd hr))) | ((with_reducible first | apply o_move | apply o_assign | apply o_faddr0 | apply o_not_d | apply o_conv); exact rfl; exact rfl) | ((with_reducible apply gdo_load); first | refine wo_load (h := ?_) | refine wo_loadAll (h := ?_) | refine wo_loadC (h := ?_) | refine wo_ldV (h := ?_) | refine wo_ldF (h := ?_)) | ((with_reducible first | apply o_lss | apply o_geq | apply o_eql | apply o_neq | apply o_extract); exact rfl; exact rfl; exact rfl) | ((with_reducible apply o_add); exact rfl; exact rfl; exact rfl; (constructor <;> omega)) | ((with_reducible apply o_pick_f); exact rfl; exact fF_; exact rfl; exact rfl) | ((with_reducible apply o_idx); infer_instance; infer_instance; exact rfl; exact rfl; (first | exact rfl | omega); exact rfl; (first | assumption | omega | decide)) | ((with_reducible apply g_skip); exact rfl; exact gG_; exact rfl) | ((with_reducible first | apply c_seq | apply c_block | apply c_region | apply c_nil | apply c_ret | apply c_exit | apply c_skip)) | ((with_reducible apply c_cond_f); exact rfl; exact fF_) | ((with_reducible first | apply e_then | apply e_then_ret | apply e_then_exit | apply e_in | apply e_in_ret | apply e_in_same)))
            refine l_again (n + 1) (show n + 1 ≤ r.items.length by omega) (show r.items.length - (n + 1) < r.items.length - n by omega) ?_ ?_
            · rw [e1]; exact fS_
            · exact hS_
      obtain rfl : n = r.items.length := by omega
      rw [Plt.keeps_end hr]
      as_aux_lemma =>
        repeat' (first | ((with_reducible apply c_cond_f); exact rfl; exact decide_eq_false (by omega)) | ((with_reducible first | apply o_move | apply o_assign | apply o_faddr0 | apply o_not_d | apply o_conv); exact rfl; exact rfl) | ((with_reducible first | apply o_lss | apply o_geq | apply o_eql | apply o_neq | apply o_extract); exact rfl; exact rfl; exact rfl) | ((with_reducible apply o_add); exact rfl; exact rfl; exact rfl; (constructor <;> omega)) | ((with_reducible first | apply c_seq | apply c_block | apply c_region | apply c_nil | apply c_ret | apply c_exit | apply c_skip)) | ((with_reducible first | apply e_then | apply e_then_ret | apply e_then_exit | apply e_in | apply e_in_ret | apply e_in_same)))
        refine l_again (k + 1) (show k + 1 ≤ (Plt.playF p).length by omega) (show (Plt.playF p).length - (k + 1) < (Plt.playF p).length - k by omega) ?_ ?_
        · exact fS_
        · exact hS_
    obtain rfl : k = (Plt.playF p).length := by omega
    rw [hrl0]
    cases hla : Plt.lastF p xi t p.passes.length with
    | none =>
      rw [hla] at hwh
      cases hwh
      rw [show Plt.lastI none = -1 from rfl]
      as_aux_lemma =>
        repeat' (first | ((with_reducible apply c_cond_t); exact rfl; exact decide_eq_true (by omega)) | ((with_reducible apply c_cond_f); exact rfl; exact decide_eq_false (by omega)) | ((with_reducible first | apply o_move | apply o_assign | apply o_faddr0 | apply o_not_d | apply o_conv); exact rfl; exact rfl) | ((with_reducible apply gdo_load); first | refine wo_load (h := ?_) | refine wo_loadAll (h := ?_) | refine wo_loadC (h := ?_) | refine wo_ldV (h := ?_) | refine wo_ldF (h := ?_)) | ((with_reducible first | apply o_lss | apply o_geq | apply o_eql | apply o_neq | apply o_extract); exact rfl; exact rfl; exact rfl) | ((with_reducible apply gdo_binOp_neq); refine wo_neq_s (h := ?_)) | ((with_reducible apply o_add); exact rfl; exact rfl; exact rfl; (constructor <;> omega)) | ((with_reducible apply gdo_build); first | refine wo_build (h := ?_)) | ((with_reducible first | apply c_seq | apply c_block | apply c_region | apply c_nil | apply c_ret | apply c_exit | apply c_skip)) | ((with_reducible apply c_cond_f); exact rfl; exact fF_) | ((with_reducible first | apply e_then | apply e_then_ret | apply e_then_exit | apply e_in | apply e_in_ret | apply e_in_same)))
        refine l_again (i + 1) (show i + 1 ≤ p.items.length by omega) (show p.items.length - (i + 1) < p.items.length - i by omega) ?_ ?_
        · exact fS_
        · exact hS_
    | some n =>
      rw [hla] at hwh
      rw [show Plt.lastI (some n) = (n : Int) from rfl]
      obtain ⟨hnl, hso⟩ := Plt.lastF_some hla
      obtain ⟨r, y, hr, hy, hxm⟩ := Plt.sorted_mem hso
      dsimp only at hwh
      rw [hr] at hwh
      dsimp only at hwh
      obtain ⟨j, m, hm, hmid, hmr, -, -, -, hcs⟩ := hv.run hy hr
      rcases hcs with hc | ⟨ready, hc⟩
      · rw [hc.eq] at hxm; simp [Plt.missed] at hxm
      have hpl := (hc.placed hxm)
      obtain ⟨hkd, hho⟩ := hpl.place kd ps nu (congrArg Prod.fst hwh).symm
      have hal : Plt.allN r xi r.res.stackers.length ≤ 1000000 := by rw [hpl.all]; omega
      refine st_know (fun w' hw' => RunsV.at (hR _ _ _ _ (by exact rL_) hw') hr) ?_
      rintro ⟨br, offr, x1, k1, x2, k2, x3, n3, k3, x4, n4, k4, x5, k5, x6, k6, x7, n7, k7, rfl, hd, hn3, g0⟩
      as_aux_lemma =>
        repeat' (first | ((with_reducible apply c_cond_f); exact rfl; exact decide_eq_false (by omega)) | ((with_reducible apply q_ldPV (l := [.int .i64 r.pass, .int .i64 r.start, .int .i64 r.fin, .slice x1 r.items.length k1, .slice x2 r.slices.length k2, .slice x3 n3 k3, .slice x4 n4 k4, .slice x5 r.res.over.length k5, .slice x6 r.res.rej.length k6, .slice x7 n7 k7])); infer_instance; infer_instance; exact rfl; exact rfl; exact sJ_; (intro w' hw' j' v' hj'; exact SV.cell (hR _ _ _ _ (by exact rL_) hw').1 hd (g0 _ _ hj')); exact rfl; exact rfl) | ((first | ((with_reducible apply o_call_pure (f := 15)); exact rfl) | ((with_reducible apply q_call_pure (f := 15)); exact rfl; kernel_rfl; exact rfl; exact sJ_)); exact eV_; exact (fun w hw => holds_yes hkd hal hho w ((hR _ _ _ _ (by exact rL_) hw).2.2 n _ _ hd hr))) | ((with_reducible first | apply o_move | apply o_assign | apply o_faddr0 | apply o_not_d | apply o_conv); exact rfl; exact rfl) | ((with_reducible first | apply o_lss | apply o_geq | apply o_eql | apply o_neq | apply o_extract); exact rfl; exact rfl; exact rfl) | ((with_reducible apply o_add); exact rfl; exact rfl; exact rfl; (constructor <;> omega)) | ((with_reducible first | apply c_seq | apply c_block | apply c_region | apply c_nil | apply c_ret | apply c_exit | apply c_skip)) | ((with_reducible apply c_cond_f); exact rfl; exact fF_) | ((with_reducible first | apply e_then | apply e_then_ret | apply e_then_exit | apply e_in | apply e_in_ret | apply e_in_same)) | ((with_reducible apply c_regionD0 (id := 27) []); kernel_rfl; kernel_rfl) | ((with_reducible apply q_nil); try simp only [ents, List.cons_append, List.nil_append]) | ((with_reducible first | apply q_move | apply q_assign | apply q_faddr0); exact rfl; exact rfl) | ((with_reducible apply gdq_load); first | refine wq_load (h := ?_) | refine wq_loadAll (h := ?_) | refine wq_loadC (h := ?_) | refine wq_ldV (h := ?_) | refine wq_ldF (h := ?_)) | ((with_reducible apply q_not); exact rfl; exact rfl) | ((with_reducible apply q_idx); infer_instance; infer_instance; exact rfl; exact rfl; (first | exact rfl | omega); exact rfl; (first | assumption | omega | decide)))
        refine l_again (i + 1) (show i + 1 ≤ p.items.length by omega) (show p.items.length - (i + 1) < p.items.length - i by omega) ?_ ?_
        · exact fS_
        · exact hS_
  obtain rfl : i = p.items.length := by omega
  repeat' (first | ((with_reducible apply c_cond_f); exact rfl; exact decide_eq_false (by omega)) | ((first | ((with_reducible apply o_call_pure (f := 16)); exact rfl) | ((with_reducible apply q_call_pure (f := 16)); exact rfl; kernel_rfl; exact rfl; exact sJ_)); exact eV_; exact (fun w _ => awake_calls w)) | ((with_reducible first | apply o_move | apply o_assign | apply o_faddr0 | apply o_not_d | apply o_conv); exact rfl; exact rfl) | ((with_reducible first | apply o_lss | apply o_geq | apply o_eql | apply o_neq | apply o_extract); exact rfl; exact rfl; exact rfl) | ((with_reducible first | apply c_seq | apply c_block | apply c_region | apply c_nil | apply c_ret | apply c_exit | apply c_skip)) | ((with_reducible first | apply e_then | apply e_then_ret | apply e_then_exit | apply e_in | apply e_in_ret | apply e_in_same)))
  apply r_body; apply res1 Try.results3; exact rV_; intro w' hw
  exact ⟨rfl, hw.below (show AO _ from by exact aO_)⟩
end Go.Proofs.Ytkhaemjoekfhiaa
namespace Go.Proofs.Ytkhaemjoekfhiaa
open Go Go.ChangeShapes Go.WideShapes Go.ChangeAt Go.RowKit Go.Sx
theorem own : ownKnob Try.prog.godebug = none := by kernel_rfl
theorem laidOut : laidOutB Try.prog = true := by kernel_rfl
theorem cellsB : Try.prog.cellsOf 5 = 1 := by kernel_rfl
section
variable {H : Type} {enc : TypeId × Value → H} {w : World}
set_option maxRecDepth 100000 in
theorem arg_u8 {r : Reach} {b0 : Nat} {v : Value} {d : DataW H} {ps : List MemPlace} (hv : Value.okWide Try.prog w r b0 5 v) (h : DataW.Trod enc Try.prog w 0 (fun _ => true) true 5 v d ps) : ∃ n, v = .int .u8 n ∧ (0 ≤ n ∧ n ≤ 255) := by
  obtain ⟨n, rfl, _, _, hw⟩ := open_int Try.underlying5 hv h
  refine ⟨n, rfl, ?_⟩
  simp only [Lit.wf, Bool.and_eq_true, decide_eq_true_eq] at hw
  exact hw
set_option maxRecDepth 100000 in
theorem rd_byte {cs : List Value} (h : Rd enc Try.prog w 5 cs) : ∃ x : UInt8, cs = encB x ∧ True := by
  obtain ⟨n, rfl, hw⟩ := Rd.int Try.underlying5 h
  simp only [Lit.wf, Bool.and_eq_true, decide_eq_true_eq] at hw
  have h0 : 0 ≤ n := hw.1
  have h1 : n ≤ 255 := hw.2
  refine ⟨UInt8.ofNat n.toNat, ?_, trivial⟩
  unfold encB
  have : (UInt8.ofNat n.toNat).toNat = n.toNat := by
    rw [UInt8.toNat_ofNat']
    omega
  rw [this]
  congr 2
  omega
theorem cellsTSK : Try.prog.cellsOf 24 = 4 := by kernel_rfl
theorem cellsTBYTES : Try.prog.cellsOf 22 = 1 := by kernel_rfl
theorem list4 {α : Type} {l : List α} (h : l.length = 4) : ∃ a b c d, l = [a, b, c, d] := by
  match l, h with
  | [a, b, c, d], _ => exact ⟨a, b, c, d, rfl⟩
set_option maxRecDepth 100000 in
theorem arg_sketch {r : Reach} {b0 : Nat} {v : Value} {d : DataW H} {ps : List MemPlace} (hv : Value.okWide Try.prog w r b0 24 v) (h : DataW.Trod enc Try.prog w 0 (fun _ => true) true 24 v d ps) :
    ∃ v0 v1 v2 v3, ∃ x : Plt.Sk, v = .agg #[v0, v1, v2, v3] ∧ SV w 1 encB v0 x.ms ∧ SV w 1 encB v1 x.shs ∧ SV w 1 encB v2 x.its ∧ SV w 1 encB v3 x.ps := by
  obtain ⟨cs, rfl, _⟩ := okWide_struct Try.underlying24 hv
  obtain ⟨hl, hf⟩ := (Rd.of h).struct Try.underlying24
  rw [cellsTSK] at hl
  simp only [Value.cells] at hl hf
  obtain ⟨a, b, c, e, hab⟩ := list4 hl
  rw [hab] at hf
  obtain ⟨a', xa, ha, wa, _⟩ := rd_slice (good := fun _ => True) Try.underlying22 cellsB (by decide) encB_len (fun cs h => rd_byte h) (hf 0 _ rfl)
  obtain ⟨b', xb, hb, wb, _⟩ := rd_slice (good := fun _ => True) Try.underlying22 cellsB (by decide) encB_len (fun cs h => rd_byte h) (hf 1 _ rfl)
  obtain ⟨c', xc, hc, wc, _⟩ := rd_slice (good := fun _ => True) Try.underlying22 cellsB (by decide) encB_len (fun cs h => rd_byte h) (hf 2 _ rfl)
  obtain ⟨e', xe, he, we, _⟩ := rd_slice (good := fun _ => True) Try.underlying22 cellsB (by decide) encB_len (fun cs h => rd_byte h) (hf 3 _ rfl)
  obtain rfl : a = a' := by simpa [cellsTBYTES] using ha
  obtain rfl : b = b' := by simpa [cellsTBYTES] using hb
  obtain rfl : c = c' := by simpa [cellsTBYTES] using hc
  obtain rfl : e = e' := by simpa [cellsTBYTES] using he
  refine ⟨a, b, c, e, ⟨xa, xb, xc, xe⟩, ?_, wa, wb, wc, we⟩
  rw [show cs = #[a, b, c, e] from by rw [← Array.toArray_toList (xs := cs), hab]]
end
end Go.Proofs.Ytkhaemjoekfhiaa
namespace Go.Proofs.Ytkhaemjoekfhiaa
open Go Go.ChangeShapes Go.WideShapes Go.ChangeAt Go.RowKit Go.Sx
set_option maxRecDepth 100000 in
theorem plantKeeps_lifted (os : Os) (started : os.Started) (H : Type) (enc : TypeId × Value → H) :
    ReturnsInHanded {} Try.checked os 3 .any (Rows.plantKeepsSpec.pre6 enc Try.prog Try.f3 Rows.plantKeepsRow.domain false) (Rows.plantKeepsSpec.post enc Try.prog Try.f3 false true false false) := by
  refine returnsInHanded_of_change (C := Try.checked) own started (by kernel_rfl) Try.func3
    (ChangeSpec.witness6 (enc := enc) (C := Try.checked) false ⟨#[], #[.agg #[.slice none 0 0, .slice none 0 0, .slice none 0 0, .slice none 0 0], .int .u8 0], []⟩ 8 (by kernel_rfl) (by kernel_rfl) (by kernel_rfl) (by kernel_rfl)) ?_
  intro W base args ds gs before hval0 hW hcnd _
  have hval : ∀ (j : Nat) t v, Try.f3.params[j]? = some t → args[j]? = some v → Value.okWide Try.prog W .any base t v := hval0
  have hW' := hW
  obtain ⟨p, q, hA0, hV, rfl, hfz, hnd⟩ := hW
  have hA : DataW.TrodAll enc Try.prog W 0 (fun _ => true) true Try.f3.params.toList args.toList ds p := hA0
  rw [Try.params3] at hA hval
  obtain ⟨v0, vs0, d0, ds0, p0, q0, hargs, rfl, rfl, h0, r0⟩ := trodAll_cons hA
  obtain ⟨v1, vs1, d1, ds1, p1, q1, rfl, rfl, rfl, h1, r1⟩ := trodAll_cons r0
  obtain ⟨rfl, rfl, rfl⟩ := trodAll_nil r1
  obtain rfl : args = #[v0, v1] := by cases args; simp_all
  obtain ⟨rfl, rfl⟩ := trodVars_none hV
  have lt0 := Rd.lt h0
  have hv0 := hval 0 24 v0 rfl rfl
  have lt1 := Rd.lt h1
  have hv1 := hval 1 5 v1 rfl rfl
  clear hA0 hval0
  obtain ⟨c0, c1, c2, c3, x, rfl, s0, s1, s2, s3⟩ := arg_sketch hv0 h0
  obtain ⟨n1, rfl, ha1⟩ := arg_u8 hv1 h1
  refine (keeps_calls W s0 s1 s2 s3 ha1).mono fun e W' ⟨he, bel⟩ => ?_
  subst he
  exact ⟨_, rfl, _, _, _, [], _, [], hW', trodAll_mk1 (shut_bool Try.underlying4 _), (trodAll_cons_mk (Below.trod laidOut (by kernel_rfl) (of_decide_eq_true (by kernel_rfl)) h0 bel lt0) (trodAll_cons_mk (Below.trod laidOut (by kernel_rfl) (of_decide_eq_true (by kernel_rfl)) h1 bel lt1) trodAll_mk0)), rfl, bel.frame _, fun h => by cases h⟩
theorem plantKeeps_proved : Rows.PlantKeepsSaid :=
  OpenClaim.holds_of_wide 3 Try.f3 rfl rfl rfl rfl rfl rfl rfl ⟨rfl, rfl, rfl, rfl, rfl⟩ rfl rfl rfl rfl rfl (by kernel_rfl) Try.func3 (by kernel_rfl)
    (of_decide_eq_true (by kernel_rfl)) (by unfold Func.isWrapper; first | (rw [if_pos (by decide +kernel)]; kernel_rfl) | (rw [if_neg (by decide +kernel)]; exact ⟨rfl, rfl⟩))
    (fun os started H enc _ => plantKeeps_lifted os started H enc)
end Go.Proofs.Ytkhaemjoekfhiaa
