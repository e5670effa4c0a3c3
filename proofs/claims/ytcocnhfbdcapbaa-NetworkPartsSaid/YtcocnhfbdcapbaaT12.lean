/-
  A part of the proofs of this seat: what some of the program's functions compute, shown by walks through their code. Conditions: the hypotheses that each theorem names. (Its blocks of tactics were laid by a small program.)
-/
import Derived.Test.YtcocnhfbdcapbaaT11
set_option linter.unusedSimpArgs false
set_option linter.unusedVariables false
namespace Go.Proofs.Ytcocnhfbdcapbaa
open Go Go.Sx Go.RowKit
/-! ## plain laws -/
theorem findUp_some (p : Int → Prop) : ∀ (n : Nat) (a d : Int), findUp p a n = some d → a ≤ d ∧ d < a + n ∧ p d ∧ ∀ x, a ≤ x → x < d → ¬ p x
  | 0, a, d, h => by rw [findUp_zero] at h; cases h
  | n + 1, a, d, h => by
    rw [findUp_succ] at h
    by_cases hp : p a
    · rw [B_true hp] at h; simp at h; subst h
      exact ⟨by omega, by omega, hp, fun x h1 h2 => by omega⟩
    · rw [B_false hp] at h
      obtain ⟨h1, h2, h3, h4⟩ := findUp_some p n (a + 1) d (by simpa using h)
      exact ⟨by omega, by omega, h3, fun x h5 h6 => by
        by_cases e : x = a
        · subst e; exact hp
        · exact h4 x (by omega) h6⟩
theorem findUp_none (p : Int → Prop) : ∀ (n : Nat) (a : Int), findUp p a n = none → ∀ x, a ≤ x → x < a + n → ¬ p x
  | 0, a, _, x, h1, h2 => by omega
  | n + 1, a, h, x, h1, h2 => by
    rw [findUp_succ] at h
    by_cases hp : p a
    · rw [B_true hp] at h; simp at h
    · rw [B_false hp] at h
      by_cases e : x = a
      · subst e; exact hp
      · exact findUp_none p n (a + 1) (by simpa using h) x (by omega) (by omega)
theorem findUp_eq {p q : Int → Prop} {a b : Int} {n m : Nat} (h1 : ∀ d, a ≤ d → d < a + n → p d → ∃ e, e ≤ d ∧ b ≤ e ∧ e < b + m ∧ q e) (h2 : ∀ d, b ≤ d → d < b + m → q d → ∃ e, e ≤ d ∧ a ≤ e ∧ e < a + n ∧ p e) :
    findUp p a n = findUp q b m := by
  cases hp : findUp p a n with
  | none =>
    cases hq : findUp q b m with
    | none => rfl
    | some d =>
      obtain ⟨k1, k2, k3, _⟩ := findUp_some q m b d hq
      obtain ⟨e, _, e2, e3, e4⟩ := h2 d k1 k2 k3
      exact absurd e4 (findUp_none p n a hp e e2 e3)
  | some d =>
    obtain ⟨k1, k2, k3, k4⟩ := findUp_some p n a d hp
    obtain ⟨e, e1, e2, e3, e4⟩ := h1 d k1 k2 k3
    cases hq : findUp q b m with
    | none => exact absurd e4 (findUp_none q m b hq e e2 e3)
    | some c =>
      obtain ⟨c1, c2, c3, c4⟩ := findUp_some q m b c hq
      obtain ⟨f, f1, f2, f3, f4⟩ := h2 c c1 c2 c3
      have hcd : c ≤ d := by
        by_cases h : c ≤ d
        · exact h
        · exact absurd e4 (c4 e e2 (by omega))
      have hdc : d ≤ c := by
        by_cases h : d ≤ c
        · exact h
        · exact absurd f4 (k4 f f2 (by omega))
      rw [show d = c from by omega]
theorem findDn_some (p : Int → Prop) : ∀ (n : Nat) (a d : Int), findDn p a n = some d → d ≤ a ∧ a - n < d ∧ p d ∧ ∀ x, x ≤ a → d < x → ¬ p x
  | 0, a, d, h => by rw [findDn_zero] at h; cases h
  | n + 1, a, d, h => by
    rw [findDn_succ] at h
    by_cases hp : p a
    · rw [B_true hp] at h; simp at h; subst h
      exact ⟨by omega, by omega, hp, fun x h1 h2 => by omega⟩
    · rw [B_false hp] at h
      obtain ⟨h1, h2, h3, h4⟩ := findDn_some p n (a + -1) d (by simpa using h)
      exact ⟨by omega, by omega, h3, fun x h5 h6 => by
        by_cases e : x = a
        · subst e; exact hp
        · exact h4 x (by omega) h6⟩
theorem findDn_none (p : Int → Prop) : ∀ (n : Nat) (a : Int), findDn p a n = none → ∀ x, x ≤ a → a - n < x → ¬ p x
  | 0, a, _, x, h1, h2 => by omega
  | n + 1, a, h, x, h1, h2 => by
    rw [findDn_succ] at h
    by_cases hp : p a
    · rw [B_true hp] at h; simp at h
    · rw [B_false hp] at h
      by_cases e : x = a
      · subst e; exact hp
      · exact findDn_none p n (a + -1) (by simpa using h) x (by omega) (by omega)
theorem findDn_eq {p q : Int → Prop} {a b : Int} {n m : Nat} (h1 : ∀ d, d ≤ a → a - n < d → p d → ∃ e, d ≤ e ∧ e ≤ b ∧ b - m < e ∧ q e) (h2 : ∀ d, d ≤ b → b - m < d → q d → ∃ e, d ≤ e ∧ e ≤ a ∧ a - n < e ∧ p e) :
    findDn p a n = findDn q b m := by
  cases hp : findDn p a n with
  | none =>
    cases hq : findDn q b m with
    | none => rfl
    | some d =>
      obtain ⟨k1, k2, k3, _⟩ := findDn_some q m b d hq
      obtain ⟨e, _, e2, e3, e4⟩ := h2 d k1 k2 k3
      exact absurd e4 (findDn_none p n a hp e e2 e3)
  | some d =>
    obtain ⟨k1, k2, k3, k4⟩ := findDn_some p n a d hp
    obtain ⟨e, e1, e2, e3, e4⟩ := h1 d k1 k2 k3
    cases hq : findDn q b m with
    | none => exact absurd e4 (findDn_none q m b hq e e2 e3)
    | some c =>
      obtain ⟨c1, c2, c3, c4⟩ := findDn_some q m b c hq
      obtain ⟨f, f1, f2, f3, f4⟩ := h2 c c1 c2 c3
      have hcd : d ≤ c := by
        by_cases h : d ≤ c
        · exact h
        · exact absurd e4 (c4 e e2 (by omega))
      have hdc : c ≤ d := by
        by_cases h : c ≤ d
        · exact h
        · exact absurd f4 (k4 f f2 (by omega))
      rw [show d = c from by omega]
theorem collect_succ (p : Int → Prop) (a : Int) (n : Nat) : collect p a (n + 1) = if B (p a) then a :: collect p (a + 1) n else collect p (a + 1) n := by
  rw [show n + 1 = 1 + n from by omega, collect_split]
  by_cases h : p a
  · rw [collect_yes h, B_true h]; simp
  · rw [collect_no h, B_false h]; simp
theorem collect_congr {p q : Int → Prop} : ∀ (n : Nat) (a : Int), (∀ x, a ≤ x → x < a + n → (p x ↔ q x)) → collect p a n = collect q a n
  | 0, a, _ => by rw [collect_zero, collect_zero]
  | n + 1, a, h => by
    rw [collect_succ, collect_succ, collect_congr n (a + 1) (fun x h1 h2 => h x (by omega) (by omega)), B_congr (h a (by omega) (by omega))]
theorem collect_sub {p : Int → Prop} {lo a : Int} {N n : Nat} (h1 : lo ≤ a) (h2 : a + n ≤ lo + N) : collect (fun x => a ≤ x ∧ x < a + n ∧ p x) lo N = collect p a n := by
  obtain ⟨k, hk⟩ : ∃ k : Nat, a = lo + k := ⟨(a - lo).toNat, by omega⟩
  obtain ⟨j, hj⟩ : ∃ j : Nat, N = k + (n + j) := ⟨N - k - n, by omega⟩
  subst hj
  rw [collect_split, collect_split, ← hk]
  rw [collect_none k lo (fun x h3 h4 h5 => by omega), collect_none j (a + n) (fun x h3 h4 h5 => by omega)]
  rw [collect_congr n a (q := p) (fun x h3 h4 => ⟨fun h => h.2.2, fun h => ⟨h3, h4, h⟩⟩)]
  simp
theorem collect_eq {p q : Int → Prop} {a b : Int} {n m : Nat} (h1 : ∀ d, a ≤ d → d < a + n → p d → b ≤ d ∧ d < b + m ∧ q d) (h2 : ∀ d, b ≤ d → d < b + m → q d → a ≤ d ∧ d < a + n ∧ p d) :
    collect p a n = collect q b m := by
  have lo : ∃ lo : Int, ∃ N : Nat, lo ≤ a ∧ lo ≤ b ∧ a + n ≤ lo + N ∧ b + m ≤ lo + N := ⟨min a b, (max (a + n) (b + m) - min a b).toNat, by omega, by omega, by omega, by omega⟩
  obtain ⟨lo, N, k1, k2, k3, k4⟩ := lo
  rw [← collect_sub (p := p) k1 k3, ← collect_sub (p := q) k2 k4]
  refine collect_congr _ _ fun x _ _ => ⟨fun ⟨e1, e2, e3⟩ => h1 x e1 e2 e3, fun ⟨e1, e2, e3⟩ => h2 x e1 e2 e3⟩
noncomputable def firstT (t : Int) : Int := if t < 0 then 0 else if t > 1051898399 then 730485 else t / 1440
def okRN (l : Leg) (a d : Int) : Prop := onOK l d ∧ (a < 0 ∨ a ≤ 1440 * d + l.dep - l.cut)
noncomputable def rnextF (l : Leg) (a : Int) : Option Int := findUp (okRN l a) (firstT a) 30
theorem runs_week {l : Leg} {d e : Int} (h : Runs l d) (hm : e % 7 = d % 7) (h1 : l.cut ≤ 1440 * e + l.dep) (h2 : 1440 * e + l.dep + l.min ≤ 1051898399) : Runs l e := by
  rw [runs_def] at h ⊢
  rw [hm]
  exact ⟨h.1, h1, h2⟩
theorem next_eq (l : Leg) (a : Int) : nextF l a = rnextF l a := by
  unfold nextF rnextF
  by_cases hR : Right l
  case neg =>
    rw [B_false (fun h => hR h.1)]
    cases h : findUp (okRN l a) (firstT a) 30 with
    | none => rfl
    | some d => exact absurd (findUp_some _ _ _ _ h).2.2.1.1.1 hR
  obtain ⟨g1, g2, g3, g4, g5⟩ := right_RL hR
  by_cases ha : a ≤ 1051898399
  · rw [B_true ⟨hR, ha⟩, if_pos rfl]
    unfold nextD
    obtain ⟨rd, hrd⟩ : ∃ rd, rd = max a 0 := ⟨_, rfl⟩
    obtain ⟨fr, hfr⟩ : ∃ fr, fr = firstT a := ⟨_, rfl⟩
    rw [← hrd, ← hfr]
    have hfr2 : fr = rd / 1440 := by rw [hfr]; unfold firstT; split <;> (try split) <;> omega
    clear hfr
    apply findUp_eq
    · intro d h1 h2 ⟨h3, h4⟩
      have h3' := h3
      rw [runs_def] at h3'
      obtain ⟨r1, r2, r3⟩ := h3'
      by_cases hlt : d < fr + 30
      · exact ⟨d, by omega, by omega, by omega, ⟨hR, by omega, h3⟩, by omega⟩
      · refine ⟨fr + 14 + (d - fr) % 7, by omega, by omega, by omega, ⟨hR, by omega, ?_⟩, by omega⟩
        exact runs_week h3 (by omega) (by omega) (by omega)
    · intro d h1 h2 ⟨⟨_, h3, h4⟩, h5⟩
      have h4' := h4
      rw [runs_def] at h4'
      obtain ⟨r1, r2, r3⟩ := h4'
      exact ⟨d, by omega, by omega, by omega, h4, by omega⟩
  · rw [B_false (fun h => ha h.2)]
    cases h : findUp (okRN l a) (firstT a) 30 with
    | none => rfl
    | some d =>
      obtain ⟨k1, k2, k3, _⟩ := findUp_some _ _ _ _ h
      have : firstT a = 730485 := by unfold firstT; split <;> (try split) <;> omega
      have := k3.1.2.1
      omega
def okRL (l : Leg) (a d : Int) : Prop := onOK l d ∧ 1440 * d + l.dep + l.min ≤ a
noncomputable def rlastF (l : Leg) (a : Int) : Option Int := findDn (okRL l a) (firstT a) 40
theorem last_eq (l : Leg) (a : Int) : lastF l a = rlastF l a := by
  unfold lastF rlastF
  by_cases hR : Right l
  case neg =>
    rw [B_false (fun h => hR h.1)]
    cases h : findDn (okRL l a) (firstT a) 40 with
    | none => rfl
    | some d => exact absurd (findDn_some _ _ _ _ h).2.2.1.1.1 hR
  obtain ⟨g1, g2, g3, g4, g5⟩ := right_RL hR
  by_cases ha : l.dep + l.min ≤ a
  · rw [B_true ⟨hR, ha⟩, if_pos rfl]
    unfold lastD
    obtain ⟨rd, hrd⟩ : ∃ rd, rd = min a 1051898399 := ⟨_, rfl⟩
    obtain ⟨fr, hfr⟩ : ∃ fr, fr = firstT a := ⟨_, rfl⟩
    rw [← hrd, ← hfr]
    have hfr2 : (a ≤ 1051898399 ∧ fr = a / 1440) ∨ (1051898399 < a ∧ fr = 730485) := by rw [hfr]; unfold firstT; split <;> (try split) <;> omega
    clear hfr
    apply findDn_eq
    · intro d h1 h2 ⟨h3, h4⟩
      have h3' := h3
      rw [runs_def] at h3'
      obtain ⟨r1, r2, r3⟩ := h3'
      by_cases hlt : fr - 40 < d
      · exact ⟨d, by omega, by omega, by omega, ⟨hR, by omega, h3⟩, by omega⟩
      · refine ⟨fr - 25 - (fr - 25 - d) % 7, by omega, by omega, by omega, ⟨hR, by omega, ?_⟩, by omega⟩
        exact runs_week h3 (by omega) (by omega) (by omega)
    · intro d h1 h2 ⟨⟨_, h3, h4⟩, h5⟩
      have h4' := h4
      rw [runs_def] at h4'
      obtain ⟨r1, r2, r3⟩ := h4'
      exact ⟨d, by omega, by omega, by omega, h4, by omega⟩
  · rw [B_false (fun h => ha h.2)]
    cases h : findDn (okRL l a) (firstT a) 40 with
    | none => rfl
    | some d =>
      obtain ⟨k1, k2, k3, _⟩ := findDn_some _ _ _ _ h
      have h5 := k3.1.2.1
      have h6 := k3.2
      omega
def okRI (l : Leg) (a b d : Int) : Prop := onOK l d ∧ a ≤ 1440 * d + l.dep ∧ 1440 * d + l.dep ≤ b
noncomputable def rlistF (l : Leg) (a b : Int) : List Int × Int :=
  if B (Right l) then (if (collect (okRI l a b) (firstT a) (firstT b + 1 - firstT a).toNat).length ≤ 1000 then (collect (okRI l a b) (firstT a) (firstT b + 1 - firstT a).toNat, 0) else ([], 5)) else ([], 2)
theorem firstT_bd (t : Int) : (t < 0 ∧ firstT t = 0) ∨ (0 ≤ t ∧ t ≤ 1051898399 ∧ firstT t = t / 1440) ∨ (1051898399 < t ∧ firstT t = 730485) := by
  unfold firstT; split <;> (try split) <;> omega
theorem list_eq (l : Leg) (a b : Int) : listF l a b = rlistF l a b := by
  unfold listF rlistF
  by_cases hR : Right l
  case neg => rw [B_false hR]; rfl
  rw [B_true hR, if_pos rfl, if_pos rfl]
  obtain ⟨g1, g2, g3, g4, g5⟩ := right_RL hR
  have ta := firstT_bd a
  have tb := firstT_bd b
  by_cases ha : a ≤ 1051898399
  · rw [if_pos ha]
    have hc : listD l (max a 0) b = collect (okRI l a b) (firstT a) (firstT b + 1 - firstT a).toNat := by
      unfold listD
      obtain ⟨rd, hrd⟩ : ∃ rd, rd = max a 0 := ⟨_, rfl⟩
      rw [← hrd]
      have tfr : firstT a = rd / 1440 := by omega
      rw [tfr]
      apply collect_eq
      · intro d h1 h2 ⟨h3, h4, h5⟩
        refine ⟨by omega, by omega, ⟨hR, by omega, h3⟩, by omega, h5⟩
      · intro d h1 h2 ⟨⟨_, h3, h4⟩, h5, h6⟩
        exact ⟨by omega, by omega, h4, by omega, h6⟩
    unfold listR
    rw [hc]
  · rw [if_neg ha]
    have hn : collect (okRI l a b) (firstT a) (firstT b + 1 - firstT a).toNat = [] := collect_none _ _ fun x h1 h2 h3 => by
      have := h3.1.2.1; omega
    rw [hn]; rfl
end Go.Proofs.Ytcocnhfbdcapbaa
