/-
  A part of the proofs of this seat: what some of the program's functions compute, shown by walks through their code. Conditions: the hypotheses that each theorem names. (Its blocks of tactics were laid by a small program.)
-/
import Derived.Test.YtcocnhfbdcapbaaT18
set_option linter.unusedSimpArgs false
set_option linter.unusedVariables false
namespace Go.Proofs.Ytcocnhfbdcapbaa
open Go Go.Sx Go.RowKit
attribute [local irreducible] WL WC WQ St Exit.then Exit.inBlock bodyPost roundPost beginK YR RG BM Calls B findUp findDn Runs firstT collect
/-! ## plain laws of lists of days -/
theorem collect_head {p : Int → Prop} : ∀ (n : Nat) (a x : Int), (collect p a n)[0]? = some x → p x ∧ a ≤ x ∧ x < a + n ∧ ∀ z, a ≤ z → z < x → ¬ p z
  | 0, a, x, h => by rw [collect_zero] at h; simp at h
  | n + 1, a, x, h => by
    rw [collect_succ] at h
    by_cases hp : p a
    · rw [B_true hp] at h
      simp at h; subst h
      exact ⟨hp, by omega, by omega, fun z h1 h2 => by omega⟩
    · rw [B_false hp] at h
      obtain ⟨h1, h2, h3, h4⟩ := collect_head n (a + 1) x (by simpa using h)
      refine ⟨h1, by omega, by omega, fun z h5 h6 => ?_⟩
      by_cases e : z = a
      · subst e; exact hp
      · exact h4 z (by omega) h6
theorem collect_next {p : Int → Prop} : ∀ (n : Nat) (a : Int) (i : Nat) (y x : Int), (collect p a n)[i]? = some y → (collect p a n)[i + 1]? = some x → y < x ∧ ∀ z, y < z → z < x → ¬ p z
  | 0, a, i, y, x, h, _ => by rw [collect_zero] at h; simp at h
  | n + 1, a, i, y, x, h, h' => by
    rw [collect_succ] at h h'
    by_cases hp : p a
    · rw [B_true hp] at h h'
      simp only [if_true] at h h'
      cases i with
      | zero =>
        simp at h h'; subst h
        obtain ⟨h1, h2, h3, h4⟩ := collect_head n (a + 1) x (by simpa using h')
        exact ⟨by omega, fun z h5 h6 => h4 z (by omega) h6⟩
      | succ i =>
        rw [List.getElem?_cons_succ] at h h'
        exact collect_next n (a + 1) i y x h h'
    · rw [B_false hp] at h h'
      exact collect_next n (a + 1) i y x (by simpa using h) (by simpa using h')
theorem collect_mem {p : Int → Prop} : ∀ (n : Nat) (a : Int) (i : Nat) (x : Int), (collect p a n)[i]? = some x → p x ∧ a ≤ x ∧ x < a + n
  | 0, a, i, x, h => by rw [collect_zero] at h; simp at h
  | n + 1, a, i, x, h => by
    rw [collect_succ] at h
    by_cases hp : p a
    · rw [B_true hp] at h
      simp only [if_true] at h
      cases i with
      | zero => simp at h; subst h; exact ⟨hp, by omega, by omega⟩
      | succ i =>
        rw [List.getElem?_cons_succ] at h
        obtain ⟨h1, h2, h3⟩ := collect_mem n (a + 1) i x h
        exact ⟨h1, by omega, by omega⟩
    · rw [B_false hp] at h
      obtain ⟨h1, h2, h3⟩ := collect_mem n (a + 1) i x (by simpa using h)
      exact ⟨h1, by omega, by omega⟩
theorem collect_len {p : Int → Prop} : ∀ (n : Nat) (a : Int), (collect p a n).length ≤ n
  | 0, a => by rw [collect_zero]; simp
  | n + 1, a => by
    rw [collect_succ]
    have := collect_len (p := p) n (a + 1)
    by_cases hp : p a
    · rw [B_true hp]; simp; omega
    · rw [B_false hp]; simp; omega
/-- The days between two times. -/
noncomputable def between (l : Leg) (a b : Int) : List Int := collect (okRI l a b) 0 730485
theorem listF_between {l : Leg} {a b : Int} (hR : Right l) (ha : 0 ≤ a) (hb : b ≤ a + 200000) : listF l a b = (between l a b, 0) := by
  rw [list_eq]; unfold rlistF
  rw [B_true hR, if_pos rfl]
  obtain ⟨g1, g2, g3, g4, g5⟩ := right_RL hR
  have ta := firstT_bd a
  have tb := firstT_bd b
  have e : collect (okRI l a b) (firstT a) (firstT b + 1 - firstT a).toNat = between l a b := by
    unfold between
    apply collect_eq
    · intro d h1 h2 h3; have := h3.1.2.1; exact ⟨by omega, by omega, h3⟩
    · intro d h1 h2 h3; have := h3.1.2.1; have := h3.2; exact ⟨by omega, by omega, h3⟩
  have hl := collect_len (p := okRI l a b) (firstT b + 1 - firstT a).toNat (firstT a)
  rw [e] at hl ⊢
  rw [if_pos (by omega)]
theorem between_split {l : Leg} {a m b : Int} (ha : 0 ≤ a) (hm : a ≤ m) : between l a b = between l a (if b < m then b else m) ++ between l (m + 1) b := by
  unfold between
  by_cases hR : Right l
  case neg =>
    rw [collect_none _ _ (fun x _ _ h => hR h.1.1), collect_none _ _ (fun x _ _ h => hR h.1.1), collect_none _ _ (fun x _ _ h => hR h.1.1)]; rfl
  obtain ⟨g1, g2, g3, g4, g5⟩ := right_RL hR
  -- the first day that leaves behind m
  obtain ⟨k, hk1, hk2⟩ : ∃ k : Nat, k ≤ 730485 ∧ ∀ d : Int, 0 ≤ d → d ≤ 730484 → (d < k ↔ 1440 * d + l.dep ≤ m) := by
    by_cases h : m < l.dep
    · exact ⟨0, by omega, fun d h1 h2 => by omega⟩
    · by_cases h2 : 1440 * 730484 + l.dep ≤ m
      · exact ⟨730485, by omega, fun d h1 h2 => by omega⟩
      · exact ⟨((m - l.dep) / 1440 + 1).toNat, by omega, fun d h1 h2 => by omega⟩
  rw [show (730485 : Nat) = k + (730485 - k) from by omega, collect_split, collect_split, collect_split]
  have e1 : collect (okRI l a b) 0 k = collect (okRI l a (if b < m then b else m)) 0 k := collect_congr _ _ fun x h1 h2 => by
    have := hk2 x h1 (by omega)
    unfold okRI
    split <;> (constructor <;> rintro ⟨h3, h4, h5⟩ <;> exact ⟨h3, h4, by omega⟩)
  have e2 : collect (okRI l a (if b < m then b else m)) (0 + k) (730485 - k) = [] := collect_none _ _ fun x h1 h2 h3 => by
    have := hk2 x (by omega) (by omega)
    have h4 := h3.2.2
    split at h4 <;> omega
  have e3 : collect (okRI l (m + 1) b) 0 k = [] := collect_none _ _ fun x h1 h2 h3 => by
    have := hk2 x (by omega) (by omega)
    have h4 := h3.2.1
    omega
  have e4 : collect (okRI l a b) (0 + k) (730485 - k) = collect (okRI l (m + 1) b) (0 + k) (730485 - k) := collect_congr _ _ fun x h1 h2 => by
    have := hk2 x (by omega) (by omega)
    unfold okRI
    constructor <;> rintro ⟨h3, h4, h5⟩ <;> exact ⟨h3, by omega, h5⟩
  rw [e1, e2, e3, e4]
  simp
/-- Two neighbours in the list lie one to seven days apart. -/
theorem between_gap {l : Leg} {a b : Int} {i : Nat} {y x : Int} (ha : 0 ≤ a) (hy : (between l a b)[i]? = some y) (hx : (between l a b)[i + 1]? = some x) : y < x ∧ x ≤ y + 7 := by
  unfold between at hy hx
  obtain ⟨⟨hon, h1, h2⟩, h3, h4⟩ := collect_mem _ _ _ _ hx
  obtain ⟨⟨hon', h1', h2'⟩, h3', h4'⟩ := collect_mem _ _ _ _ hy
  obtain ⟨g1, g2⟩ := collect_next _ _ _ _ _ hy hx
  refine ⟨g1, ?_⟩
  by_cases h : x ≤ y + 7
  · exact h
  · exfalso
    obtain ⟨k1, k2, k3, k4, k5⟩ := right_RL hon.1
    have hr := hon.2.2
    have hr' := hon'.2.2
    have q := hr
    rw [runs_def] at q
    rw [runs_def] at hr'
    exact g2 (x - 7) (by omega) (by omega) ⟨⟨hon.1, by omega, runs_week hr (by omega) (by omega) (by omega)⟩, by omega, by omega⟩
/-- What List answers, its slice a letter. -/
theorem list_open {l : Leg} {a b : Int} (hu : U8 l) (hR : Right l) (ha : 0 ≤ a) (hb : b ≤ a + 200000) (w : World) : Calls Try.prog 18 #[legV l, .int .i64 a, .int .i64 b] w fun e w' => ∃ v N, e = .returned v ∧
    ((∃ p cap, v = .tuple #[.slice p (between l a b).length cap, .int .i64 0] ∧ (0 < (between l a b).length → ∃ b' slack, p = some ⟨b', 0, none⟩ ∧ At N b' (Ce ((between l a b).flatMap (depC l) ++ slack) 28))) ∧ ∀ x ∈ N, x.own = true) ∧ Rep w w' N ∧ ∀ x ∈ N, x.own = true :=
  (list_calls l a b w hu).mono fun e w' ⟨v, N, h1, ⟨sv, h2, h3⟩, h4, h5⟩ => by
    rw [listF_between hR ha hb] at h2 h3
    have hfl := flat_len (k := 2) (enc := depC l) (fun _ => rfl) (between l a b)
    rcases h3.parts with ⟨rfl, hx, rfl⟩ | ⟨b', m, cap, slack, rfl, rfl, hx1, _, _⟩
    · have hx' : (between l a b).flatMap (depC l) = [] := hx
      have h0 : (between l a b).length = 0 := by rw [hx'] at hfl; simp at hfl; omega
      exact ⟨v, _, h1, ⟨⟨none, 0, by rw [h0]; exact h2, fun h => by omega⟩, h5⟩, h4, h5⟩
    · have hx' : ((between l a b).flatMap (depC l)).length = m * 2 := hx1
      have h0 : (between l a b).length = m := by omega
      exact ⟨v, _, h1, ⟨⟨_, cap, by rw [h0]; exact h2, fun _ => ⟨b', slack, rfl, .hd⟩⟩, h5⟩, h4, h5⟩
theorem At.right {L N : List Ent} {b : Nat} {o : Obj} (h : At L b o) : At (N ++ L) b o := by
  induction N with
  | nil => exact h
  | cons x N ih => exact .tl ih
theorem At.left {L N : List Ent} {b : Nat} {o : Obj} (h : At N b o) : At (N ++ L) b o := by
  induction h with
  | hd => exact .hd
  | tl _ ih => exact .tl ih
end Go.Proofs.Ytcocnhfbdcapbaa
