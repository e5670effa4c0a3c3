/- A part of the proofs of this seat: a small logic of walks, plain laws, and what some of the program's functions compute, shown by walks through their code. Conditions: the hypotheses that each theorem names. -/
import Derived.Test.YtdahckhlfldkkaaZPWhere3
import Derived.Test.YtdahckhlfldkkaaZPWhere8
import Derived.Test.YtdahckhlfldkkaaZPWhere4
import Derived.Test.YtdahckhlfldkkaaZPWhere6
set_option linter.unusedSimpArgs false
set_option linter.unusedVariables false
set_option linter.unusedSectionVars false
namespace Go.Sx.Plt
def zj1 (x : Int) (l : List Int) : Int := match zn5 x l with
  | some k => (k : Int)
  | none => -1
theorem zY8 {x : Int} {l : List Int} {i : Nat} (h : l[i]? = some x) (hb : ∀ y ∈ l.take i, y ≠ x) : zj1 x l = (i : Int) := by
  unfold zj1
  have : zn5 x l = some i := by
    induction l generalizing i with
    | nil => simp at h
    | cons a r ih =>
      rw [zn5]
      cases i with
      | zero => simp at h; rw [if_pos h]
      | succ i =>
        rw [if_neg (hb a (by simp)), ih (by simpa using h) (fun y hy => hb y (by simp [hy]))]; rfl
  rw [this]
theorem zK8 {x : Int} {l : List Int} (hb : ∀ y ∈ l, y ≠ x) : zj1 x l = -1 := by
  unfold zj1
  rw [zs9.2 fun h => hb x h rfl]
theorem zn6 (x : Int) (l : List Int) : (zj1 x l = -1 ∧ x ∉ l) ∨ ∃ i : Nat, zj1 x l = (i : Int) ∧ l[i]? = some x ∧ ∀ y ∈ l.take i, y ≠ x := by
  cases h : zn5 x l with
  | none => exact .inl ⟨by unfold zj1; rw [h], zs9.1 h⟩
  | some i =>
    refine .inr ⟨i, by unfold zj1; rw [h], ?_⟩
    induction l generalizing i with
    | nil => simp [zn5] at h
    | cons a r ih =>
      rw [zn5] at h
      split at h
      · cases h; rename_i ha; subst ha; simp
      · rename_i ha
        cases hr : zn5 x r with
        | none => rw [hr] at h; cases h
        | some k =>
          rw [hr] at h
          simp only [Option.map_some, Option.some.injEq] at h
          subst h
          obtain ⟨h1, h2⟩ := ih k hr
          refine ⟨by simpa using h1, fun y hy => ?_⟩
          rw [List.take_succ_cons, List.mem_cons] at hy
          rcases hy with rfl | hy
          · exact ha
          · exact h2 y hy
end Go.Sx.Plt
namespace Go.Proofs.Ytdahckhlfldkkaa
open Go Go.Sx Go.RowKit
attribute [local irreducible] WL WC WQ WR WB WF QB St Exit.then Exit.inBlock Exit.noGoto bodyPost roundPost zc9 YR RG BM Calls B zd4 zf2
theorem yr8 (x : Int) (w : World) : Calls Try.prog 33 #[.int .i64 x] w fun e w' => e = .returned (.bool (decide (1 ≤ x ∧ x ≤ 999999))) ∧ Below w.heap.size w w' := by
  by_cases h1 : 1 ≤ x ∧ x ≤ 999999
  · rw [decide_eq_true h1]
    refine zd3 Try.func33 rfl Try.ntmps33 rfl (Rep.start w) ?_
    repeat' (first | (apply n9; exact rfl; exact dT_; exact rfl; exact rfl) | (apply j0; exact rfl; exact dT_) | ((first | apply w9 | apply y8); exact rfl; exact rfl) | ((first | apply p4 | apply n0); exact rfl; exact rfl; exact rfl) | ((first | apply s9 | apply x8 | apply z8 | apply s7 | apply s8 | apply w4 | apply z9 | apply w5)) | ((first | apply w6 | apply z6 | apply z0 | apply p7 | apply y0 | apply z7)))
    apply o0; apply za8 Try.results33; exact rV_; intro w' hw
    exact ⟨by rw [decide_eq_true (by omega : x < 1000000)], hw.below (by simp)⟩
  · rw [decide_eq_false h1]
    by_cases h2 : 0 < x
    · refine zd3 Try.func33 rfl Try.ntmps33 rfl (Rep.start w) ?_
      repeat' (first | (apply n9; exact rfl; exact dT_; exact rfl; exact rfl) | (apply j0; exact rfl; exact dT_) | ((first | apply w9 | apply y8); exact rfl; exact rfl) | ((first | apply p4 | apply n0); exact rfl; exact rfl; exact rfl) | ((first | apply s9 | apply x8 | apply z8 | apply s7 | apply s8 | apply w4 | apply z9 | apply w5)) | ((first | apply w6 | apply z6 | apply z0 | apply p7 | apply y0 | apply z7)))
      apply o0; apply za8 Try.results33; exact rV_; intro w' hw
      exact ⟨by rw [decide_eq_false (by omega : ¬ x < 1000000)], hw.below (by simp)⟩
    · refine zd3 Try.func33 rfl Try.ntmps33 rfl (Rep.start w) ?_
      repeat' (first | (apply p9; exact rfl; exact dF_; exact rfl; exact rfl) | (apply za2; exact rfl; exact dF_; exact rfl) | ((first | apply w9 | apply y8); exact rfl; exact rfl) | ((first | apply p4 | apply n0); exact rfl; exact rfl; exact rfl) | ((first | apply s9 | apply x8 | apply z8 | apply s7 | apply s8 | apply w4 | apply z9 | apply w5)) | ((first | apply w6 | apply z6 | apply z0 | apply p7 | apply y0 | apply z7)))
      apply o0; apply za8 Try.results33; exact rV_; intro w' hw
      exact ⟨rfl, hw.below (by simp)⟩
theorem zR9 {v : Value} {l : List MD} (x : Int) (w : World) (h : SV w 5 zP5 v l) : Calls Try.prog 24 #[v, .int .i64 x] w fun e w' => e = .returned (.int .i64 (Plt.zj1 x (l.map MD.id))) ∧ Below w.heap.size w w' := by
  obtain ⟨a0, c0, rfl, hc, hop⟩ := h.open
  refine za6 Try.func24 rfl Try.ntmps24 rfl (Rep.start w) ?_
  repeat' (first | ((first | apply w9 | apply y8 | apply x9); exact rfl; exact rfl) | ((first | apply s9 | apply x8 | apply z8 | apply s7 | apply s8 | apply w4 | apply z9 | apply w5)) | ((first | apply w6 | apply z6 | apply z0 | apply p7 | apply y0 | apply z7)))
  apply i9 (σ := Nat) (Fs := fun i => [(5, .int .i64 i), (0, .slice a0 l.length c0), (1, .int .i64 x)]) (Ls := fun _ => []) (I := fun i => i ≤ l.length ∧ ∀ y ∈ (l.map MD.id).take i, y ≠ x) (μ := fun i => l.length - i) (s0 := 0)
  · exact ⟨Nat.zero_le _, by simp⟩
  · exact fS_
  · exact hS_
  rintro i ⟨hi, hb⟩
  by_cases hlt : i < l.length
  · obtain ⟨d, hx⟩ : ∃ d, l[i]? = some d := ⟨_, List.getElem?_eq_getElem hlt⟩
    obtain ⟨b, off, cc, e, fz, rfl, hk, hp⟩ := hop (by omega)
    have q1 := hp.one hx rfl
    have hm : (l.map MD.id)[i]? = some (MD.id d) := by rw [List.getElem?_map, hx]; rfl
    by_cases hd : MD.id d = x
    · rw [hd] at hm
      rw [Plt.zY8 hm hb]
      repeat' (first | (apply v8; exact rfl; exact dT_) | ((first | apply w9 | apply y8 | apply x9); exact rfl; exact rfl) | (apply za9; exact rfl; exact rfl) | (apply w7; first | refine u9 (h := ?_) | refine y9 (h := ?_) | refine w8 (h := ?_) | refine q7 (h := ?_) | refine q6 (h := ?_)) | ((first | apply p4 | apply m9); exact rfl; exact rfl; exact rfl) | (apply n8; infer_instance; exact rfl; exact rfl) | (apply l0; infer_instance; infer_instance; exact rfl; exact rfl; (first | exact rfl | omega); exact rfl; (first | assumption | omega | decide)) | ((first | apply s9 | apply x8 | apply z8 | apply s7 | apply s8 | apply w4 | apply z9 | apply w5)) | ((first | apply w6 | apply z6 | apply z0 | apply p7 | apply y0 | apply z7)))
      apply o0; apply za8 Try.results24; exact rV_; intro w' hw
      exact ⟨rfl, hw.below (by simp)⟩
    · repeat' (first | (apply v8; exact rfl; exact dT_) | (apply v9; exact rfl; exact dF_) | ((first | apply w9 | apply y8 | apply x9); exact rfl; exact rfl) | (apply za9; exact rfl; exact rfl) | (apply w7; first | refine u9 (h := ?_) | refine y9 (h := ?_) | refine w8 (h := ?_) | refine q7 (h := ?_) | refine q6 (h := ?_)) | ((first | apply p4 | apply m9); exact rfl; exact rfl; exact rfl) | (apply j8; exact rfl; exact rfl; exact rfl; (constructor <;> omega)) | (apply n8; infer_instance; exact rfl; exact rfl) | (apply l0; infer_instance; infer_instance; exact rfl; exact rfl; (first | exact rfl | omega); exact rfl; (first | assumption | omega | decide)) | ((first | apply s9 | apply x8 | apply z8 | apply s7 | apply s8 | apply w4 | apply z9 | apply w5)) | ((first | apply w6 | apply z6 | apply z0 | apply p7 | apply y0 | apply z7)))
      refine o9 (i + 1) ⟨by omega, zg8 hm hb hd⟩ (by omega) ?_ ?_
      · exact fS_
      · exact hS_
  rw [List.take_of_length_le (by rw [List.length_map]; omega)] at hb
  rw [Plt.zK8 hb]
  repeat' (first | (apply v9; exact rfl; exact dF_) | ((first | apply w9 | apply y8 | apply x9); exact rfl; exact rfl) | ((first | apply p4 | apply m9); exact rfl; exact rfl; exact rfl) | (apply n8; infer_instance; exact rfl; exact rfl) | ((first | apply s9 | apply x8 | apply z8 | apply s7 | apply s8 | apply w4 | apply z9 | apply w5)) | ((first | apply w6 | apply z6 | apply z0 | apply p7 | apply y0 | apply z7)))
  apply o0; apply za8 Try.results24; exact rV_; intro w' hw
  exact ⟨rfl, hw.below (by simp)⟩
theorem ye5 {v : Value} {l : List Plt.Item} (x : Int) (w : World) (h : SV w 3 zq6 v l) : Calls Try.prog 22 #[v, .int .i64 x] w fun e w' => e = .returned (.int .i64 (Plt.zj1 x (l.map Plt.Item.id))) ∧ Below w.heap.size w w' := by
  obtain ⟨a0, c0, rfl, hc, hop⟩ := h.open
  refine za6 Try.func22 rfl Try.ntmps22 rfl (Rep.start w) ?_
  repeat' (first | ((first | apply w9 | apply y8 | apply x9); exact rfl; exact rfl) | ((first | apply s9 | apply x8 | apply z8 | apply s7 | apply s8 | apply w4 | apply z9 | apply w5)) | ((first | apply w6 | apply z6 | apply z0 | apply p7 | apply y0 | apply z7)))
  apply i9 (σ := Nat) (Fs := fun i => [(5, .int .i64 i), (0, .slice a0 l.length c0), (1, .int .i64 x)]) (Ls := fun _ => []) (I := fun i => i ≤ l.length ∧ ∀ y ∈ (l.map Plt.Item.id).take i, y ≠ x) (μ := fun i => l.length - i) (s0 := 0)
  · exact ⟨Nat.zero_le _, by simp⟩
  · exact fS_
  · exact hS_
  rintro i ⟨hi, hb⟩
  by_cases hlt : i < l.length
  · obtain ⟨d, hx⟩ : ∃ d, l[i]? = some d := ⟨_, List.getElem?_eq_getElem hlt⟩
    obtain ⟨b, off, cc, e, fz, rfl, hk, hp⟩ := hop (by omega)
    have q1 := hp.one hx rfl
    have hm : (l.map Plt.Item.id)[i]? = some (Plt.Item.id d) := by rw [List.getElem?_map, hx]; rfl
    by_cases hd : Plt.Item.id d = x
    · rw [hd] at hm
      rw [Plt.zY8 hm hb]
      repeat' (first | (apply v8; exact rfl; exact dT_) | ((first | apply w9 | apply y8 | apply x9); exact rfl; exact rfl) | (apply za9; exact rfl; exact rfl) | (apply w7; first | refine u9 (h := ?_) | refine y9 (h := ?_) | refine w8 (h := ?_) | refine q7 (h := ?_) | refine q6 (h := ?_)) | ((first | apply p4 | apply m9); exact rfl; exact rfl; exact rfl) | (apply n8; infer_instance; exact rfl; exact rfl) | (apply l0; infer_instance; infer_instance; exact rfl; exact rfl; (first | exact rfl | omega); exact rfl; (first | assumption | omega | decide)) | ((first | apply s9 | apply x8 | apply z8 | apply s7 | apply s8 | apply w4 | apply z9 | apply w5)) | ((first | apply w6 | apply z6 | apply z0 | apply p7 | apply y0 | apply z7)))
      apply o0; apply za8 Try.results22; exact rV_; intro w' hw
      exact ⟨rfl, hw.below (by simp)⟩
    · repeat' (first | (apply v8; exact rfl; exact dT_) | (apply v9; exact rfl; exact dF_) | ((first | apply w9 | apply y8 | apply x9); exact rfl; exact rfl) | (apply za9; exact rfl; exact rfl) | (apply w7; first | refine u9 (h := ?_) | refine y9 (h := ?_) | refine w8 (h := ?_) | refine q7 (h := ?_) | refine q6 (h := ?_)) | ((first | apply p4 | apply m9); exact rfl; exact rfl; exact rfl) | (apply j8; exact rfl; exact rfl; exact rfl; (constructor <;> omega)) | (apply n8; infer_instance; exact rfl; exact rfl) | (apply l0; infer_instance; infer_instance; exact rfl; exact rfl; (first | exact rfl | omega); exact rfl; (first | assumption | omega | decide)) | ((first | apply s9 | apply x8 | apply z8 | apply s7 | apply s8 | apply w4 | apply z9 | apply w5)) | ((first | apply w6 | apply z6 | apply z0 | apply p7 | apply y0 | apply z7)))
      refine o9 (i + 1) ⟨by omega, zg8 hm hb hd⟩ (by omega) ?_ ?_
      · exact fS_
      · exact hS_
  rw [List.take_of_length_le (by rw [List.length_map]; omega)] at hb
  rw [Plt.zK8 hb]
  repeat' (first | (apply v9; exact rfl; exact dF_) | ((first | apply w9 | apply y8 | apply x9); exact rfl; exact rfl) | ((first | apply p4 | apply m9); exact rfl; exact rfl; exact rfl) | (apply n8; infer_instance; exact rfl; exact rfl) | ((first | apply s9 | apply x8 | apply z8 | apply s7 | apply s8 | apply w4 | apply z9 | apply w5)) | ((first | apply w6 | apply z6 | apply z0 | apply p7 | apply y0 | apply z7)))
  apply o0; apply za8 Try.results22; exact rV_; intro w' hw
  exact ⟨rfl, hw.below (by simp)⟩
theorem ye6 {v : Value} {l : List PD} (x : Int) (w : World) (h : SV w 6 zP6 v l) : Calls Try.prog 49 #[v, .int .i64 x] w fun e w' => e = .returned (.int .i64 (Plt.zj1 x (l.map PD.id))) ∧ Below w.heap.size w w' := by
  obtain ⟨a0, c0, rfl, hc, hop⟩ := h.open
  refine za6 Try.func49 rfl Try.ntmps49 rfl (Rep.start w) ?_
  repeat' (first | ((first | apply w9 | apply y8 | apply x9); exact rfl; exact rfl) | ((first | apply s9 | apply x8 | apply z8 | apply s7 | apply s8 | apply w4 | apply z9 | apply w5)) | ((first | apply w6 | apply z6 | apply z0 | apply p7 | apply y0 | apply z7)))
  apply i9 (σ := Nat) (Fs := fun i => [(5, .int .i64 i), (0, .slice a0 l.length c0), (1, .int .i64 x)]) (Ls := fun _ => []) (I := fun i => i ≤ l.length ∧ ∀ y ∈ (l.map PD.id).take i, y ≠ x) (μ := fun i => l.length - i) (s0 := 0)
  · exact ⟨Nat.zero_le _, by simp⟩
  · exact fS_
  · exact hS_
  rintro i ⟨hi, hb⟩
  by_cases hlt : i < l.length
  · obtain ⟨d, hx⟩ : ∃ d, l[i]? = some d := ⟨_, List.getElem?_eq_getElem hlt⟩
    obtain ⟨b, off, cc, e, fz, rfl, hk, hp⟩ := hop (by omega)
    have q1 := hp.one hx rfl
    have hm : (l.map PD.id)[i]? = some (PD.id d) := by rw [List.getElem?_map, hx]; rfl
    by_cases hd : PD.id d = x
    · rw [hd] at hm
      rw [Plt.zY8 hm hb]
      repeat' (first | (apply v8; exact rfl; exact dT_) | ((first | apply w9 | apply y8 | apply x9); exact rfl; exact rfl) | (apply za9; exact rfl; exact rfl) | (apply w7; first | refine u9 (h := ?_) | refine y9 (h := ?_) | refine w8 (h := ?_) | refine q7 (h := ?_) | refine q6 (h := ?_)) | ((first | apply p4 | apply m9); exact rfl; exact rfl; exact rfl) | (apply n8; infer_instance; exact rfl; exact rfl) | (apply l0; infer_instance; infer_instance; exact rfl; exact rfl; (first | exact rfl | omega); exact rfl; (first | assumption | omega | decide)) | ((first | apply s9 | apply x8 | apply z8 | apply s7 | apply s8 | apply w4 | apply z9 | apply w5)) | ((first | apply w6 | apply z6 | apply z0 | apply p7 | apply y0 | apply z7)))
      apply o0; apply za8 Try.results49; exact rV_; intro w' hw
      exact ⟨rfl, hw.below (by simp)⟩
    · repeat' (first | (apply v8; exact rfl; exact dT_) | (apply v9; exact rfl; exact dF_) | ((first | apply w9 | apply y8 | apply x9); exact rfl; exact rfl) | (apply za9; exact rfl; exact rfl) | (apply w7; first | refine u9 (h := ?_) | refine y9 (h := ?_) | refine w8 (h := ?_) | refine q7 (h := ?_) | refine q6 (h := ?_)) | ((first | apply p4 | apply m9); exact rfl; exact rfl; exact rfl) | (apply j8; exact rfl; exact rfl; exact rfl; (constructor <;> omega)) | (apply n8; infer_instance; exact rfl; exact rfl) | (apply l0; infer_instance; infer_instance; exact rfl; exact rfl; (first | exact rfl | omega); exact rfl; (first | assumption | omega | decide)) | ((first | apply s9 | apply x8 | apply z8 | apply s7 | apply s8 | apply w4 | apply z9 | apply w5)) | ((first | apply w6 | apply z6 | apply z0 | apply p7 | apply y0 | apply z7)))
      refine o9 (i + 1) ⟨by omega, zg8 hm hb hd⟩ (by omega) ?_ ?_
      · exact fS_
      · exact hS_
  rw [List.take_of_length_le (by rw [List.length_map]; omega)] at hb
  rw [Plt.zK8 hb]
  repeat' (first | (apply v9; exact rfl; exact dF_) | ((first | apply w9 | apply y8 | apply x9); exact rfl; exact rfl) | ((first | apply p4 | apply m9); exact rfl; exact rfl; exact rfl) | (apply n8; infer_instance; exact rfl; exact rfl) | ((first | apply s9 | apply x8 | apply z8 | apply s7 | apply s8 | apply w4 | apply z9 | apply w5)) | ((first | apply w6 | apply z6 | apply z0 | apply p7 | apply y0 | apply z7)))
  apply o0; apply za8 Try.results49; exact rV_; intro w' hw
  exact ⟨rfl, hw.below (by simp)⟩
theorem zV9 {v : Value} {l : List Int} (x : Int) (w : World) (h : SV w 1 encI v l) : Calls Try.prog 25 #[v, .int .i64 x] w fun e w' => e = .returned (.bool (B (x ∈ l))) ∧ Below w.heap.size w w' := by
  obtain ⟨a0, c0, rfl, hc, hop⟩ := h.open
  refine za6 Try.func25 rfl Try.ntmps25 rfl (Rep.start w) ?_
  repeat' (first | ((first | apply w9 | apply y8); exact rfl; exact rfl) | ((first | apply s9 | apply x8 | apply z8 | apply s7 | apply s8 | apply w4 | apply z9 | apply w5)) | ((first | apply w6 | apply z6 | apply z0 | apply p7 | apply y0 | apply z7)))
  apply i9 (σ := Nat) (Fs := fun i => [(5, .int .i64 i), (0, .slice a0 l.length c0), (1, .int .i64 x)]) (Ls := fun _ => []) (I := fun i => i ≤ l.length ∧ ∀ y ∈ l.take i, y ≠ x) (μ := fun i => l.length - i) (s0 := 0)
  · exact ⟨Nat.zero_le _, by simp⟩
  · exact fS_
  · exact hS_
  rintro i ⟨hi, hb⟩
  by_cases hlt : i < l.length
  · obtain ⟨d, hx⟩ : ∃ d, l[i]? = some d := ⟨_, List.getElem?_eq_getElem hlt⟩
    obtain ⟨b, off, cc, e, fz, rfl, hk, hp⟩ := hop (by omega)
    have q1 := hp.one hx rfl
    by_cases hd : d = x
    · rw [zh7 (by rw [← hd]; exact List.mem_of_getElem? hx)]
      repeat' (first | (apply v8; exact rfl; exact dT_) | ((first | apply w9 | apply y8); exact rfl; exact rfl) | (apply w7; first | refine u9 (h := ?_) | refine y9 (h := ?_) | refine w8 (h := ?_) | refine q7 (h := ?_) | refine q6 (h := ?_)) | ((first | apply p4 | apply m9); exact rfl; exact rfl; exact rfl) | (apply n8; infer_instance; exact rfl; exact rfl) | (apply l0; infer_instance; infer_instance; exact rfl; exact rfl; (first | exact rfl | omega); exact rfl; (first | assumption | omega | decide)) | ((first | apply s9 | apply x8 | apply z8 | apply s7 | apply s8 | apply w4 | apply z9 | apply w5)) | ((first | apply w6 | apply z6 | apply z0 | apply p7 | apply y0 | apply z7)))
      apply o0; apply za8 Try.results25; exact rV_; intro w' hw
      exact ⟨rfl, hw.below (by simp)⟩
    · repeat' (first | (apply v8; exact rfl; exact dT_) | (apply v9; exact rfl; exact dF_) | ((first | apply w9 | apply y8); exact rfl; exact rfl) | (apply w7; first | refine u9 (h := ?_) | refine y9 (h := ?_) | refine w8 (h := ?_) | refine q7 (h := ?_) | refine q6 (h := ?_)) | ((first | apply p4 | apply m9); exact rfl; exact rfl; exact rfl) | (apply j8; exact rfl; exact rfl; exact rfl; (constructor <;> omega)) | (apply n8; infer_instance; exact rfl; exact rfl) | (apply l0; infer_instance; infer_instance; exact rfl; exact rfl; (first | exact rfl | omega); exact rfl; (first | assumption | omega | decide)) | ((first | apply s9 | apply x8 | apply z8 | apply s7 | apply s8 | apply w4 | apply z9 | apply w5)) | ((first | apply w6 | apply z6 | apply z0 | apply p7 | apply y0 | apply z7)))
      refine o9 (i + 1) ⟨by omega, zg8 hx hb hd⟩ (by omega) ?_ ?_
      · exact fS_
      · exact hS_
  rw [List.take_of_length_le (by omega)] at hb
  rw [zb4 (fun hm => hb x hm rfl)]
  repeat' (first | (apply v9; exact rfl; exact dF_) | ((first | apply w9 | apply y8); exact rfl; exact rfl) | ((first | apply p4 | apply m9); exact rfl; exact rfl; exact rfl) | (apply n8; infer_instance; exact rfl; exact rfl) | ((first | apply s9 | apply x8 | apply z8 | apply s7 | apply s8 | apply w4 | apply z9 | apply w5)) | ((first | apply w6 | apply z6 | apply z0 | apply p7 | apply y0 | apply z7)))
  apply o0; apply za8 Try.results25; exact rV_; intro w' hw
  exact ⟨rfl, hw.below (by simp)⟩
end Go.Proofs.Ytdahckhlfldkkaa
namespace Go.Sx.Plt
open Go.Proofs.Ytdahckhlfldkkaa (zh3 psF tkF zl3 zi4)
theorem zK1 {K V : Type} [DecidableEq K] {k : K} : ∀ {l : List (K × V)} {i : Nat} {v : V}, l[i]? = some (k, v) → (∀ y ∈ (l.map Prod.fst).take i, y ≠ k) → asF k l = some v
  | [], i, v, h, _ => by simp at h
  | a :: r, i, v, h, hb => by
    rw [asF]
    cases i with
    | zero => simp at h; subst h; simp
    | succ i =>
      rw [if_neg (hb a.1 (by simp))]
      exact zK1 (by simpa using h) (fun y hy => hb y (by simp [hy]))
theorem yh9 {K V : Type} [DecidableEq K] {k : K} {l : List (K × V)} (h : k ∉ l.map Prod.fst) : asF k l = none := zi7.2 fun p hp e => h (List.mem_map.2 ⟨p, hp, e⟩)
theorem zZ0 {ms : List zb3} {x : Int} {k : Nat} {m : zb3} (hk : zj1 x (ms.map zb3.id) = (k : Int)) (hm : ms[k]? = some m) : m.id = x ∧ asF x (zf3 ms) = some (m.caps.length : Int) := by
  rcases zn6 x (ms.map zb3.id) with ⟨h, _⟩ | ⟨i, h1, h2, h3⟩
  · omega
  · obtain rfl : i = k := by omega
    rw [List.getElem?_map, hm] at h2
    simp only [Option.map_some, Option.some.injEq] at h2
    refine ⟨h2, zK1 (i := i) ?_ ?_⟩
    · unfold zf3; rw [List.getElem?_map, hm, ← h2]; rfl
    · rw [zh3]; exact h3
theorem yC9 {ms : List zb3} {x : Int} (hk : zj1 x (ms.map zb3.id) = -1) : asF x (zf3 ms) = none := by
  rcases zn6 x (ms.map zb3.id) with ⟨_, h⟩ | ⟨i, h1, _⟩
  · exact yh9 (by rw [zh3]; exact h)
  · omega
theorem zG2 (x : Int) (l : List Int) : -1 ≤ zj1 x l ∧ zj1 x l < l.length := by
  rcases zn6 x l with ⟨h, _⟩ | ⟨i, h1, h2, _⟩
  · omega
  · have := (List.getElem?_eq_some_iff.1 h2).1; omega
theorem zx9 (msl : List (Int × Int)) (l : List za3) : (psF msl l).map Prod.fst = l.map za3.id := by simp [psF, Function.comp_def]
theorem yn8 {msl : List (Int × Int)} {l : List za3} {x : Int} {k i : Nat} {y : za3} (hk : zj1 x (l.map za3.id) = (k : Int)) (hy : l[k]? = some y) (hi : k < i) : y.id = x ∧ asF x (psF msl (l.take i)) = some ((asF y.mach msl).getD 0) := by
  rcases zn6 x (l.map za3.id) with ⟨h, _⟩ | ⟨j, h1, h2, h3⟩
  · omega
  · obtain rfl : j = k := by omega
    rw [List.getElem?_map, hy] at h2
    simp only [Option.map_some, Option.some.injEq] at h2
    refine ⟨h2, zK1 (i := j) ?_ ?_⟩
    · unfold psF; rw [List.getElem?_map, List.getElem?_take_of_lt hi, hy, ← h2]; rfl
    · rw [zx9, List.map_take, List.take_take, Nat.min_eq_left (by omega)]; exact h3
theorem yo0 {msl : List (Int × Int)} {l : List za3} {x : Int} {i : Nat} (hk : zj1 x (l.map za3.id) < 0 ∨ (i : Int) ≤ zj1 x (l.map za3.id)) : asF x (psF msl (l.take i)) = none := by
  refine yh9 ?_
  rw [zx9, List.map_take]
  rcases zn6 x (l.map za3.id) with ⟨_, h⟩ | ⟨j, h1, h2, h3⟩
  · exact fun hm => h (List.mem_of_mem_take hm)
  · intro hm
    obtain ⟨n, hn⟩ := List.getElem?_of_mem hm
    have hnl := (List.getElem?_eq_some_iff.1 hn).1
    rw [List.length_take] at hnl
    rw [List.getElem?_take_of_lt (by omega)] at hn
    exact h3 x (List.mem_of_getElem? (i := n) (by rw [List.getElem?_take_of_lt (by omega)]; exact hn)) rfl
theorem zB8 {l : List Int} {x : Int} {i : Nat} (h : l[i]? = some x) : zj1 x l = (i : Int) ↔ x ∉ l.take i := by
  rcases zn6 x l with ⟨h1, h2⟩ | ⟨j, h1, h2, h3⟩
  · exact absurd (List.mem_of_getElem? h) h2
  · constructor
    · intro e hm
      obtain rfl : j = i := by omega
      exact h3 x hm rfl
    · intro hn
      rw [h1]
      congr 1
      rcases Nat.lt_trichotomy j i with g | g | g
      · exact absurd (List.mem_of_getElem? (i := j) (by rw [List.getElem?_take_of_lt g]; exact h2)) hn
      · exact g
      · exact absurd rfl (h3 x (List.mem_of_getElem? (i := i) (by rw [List.getElem?_take_of_lt g]; exact h)))
theorem yc9 {ms : List zb3} {l : List za3} {i : Nat} {y : za3} (hy : l[i]? = some y) : zB5 (zf3 ms) (psF (zf3 ms) (l.take i)) y ↔ (1 ≤ y.id ∧ y.id ≤ 999999) ∧ zj1 y.id (l.map za3.id) = (i : Int) ∧ 0 ≤ zj1 y.mach (ms.map zb3.id) ∧ 0 ≤ y.rel ∧ y.rel ≤ 1051898399 := by
  have hm : (l.map za3.id)[i]? = some y.id := by rw [List.getElem?_map, hy]; rfl
  have h1 : asF y.id (psF (zf3 ms) (l.take i)) = none ↔ zj1 y.id (l.map za3.id) = (i : Int) := by
    rw [zB8 hm]
    constructor
    · intro h hh
      rw [zi7] at h
      rw [← List.map_take, ← zx9 (zf3 ms)] at hh
      obtain ⟨p, hp, e⟩ := List.mem_map.1 hh
      exact h p hp e
    · intro h
      exact yh9 (by rw [zx9, List.map_take]; exact h)
  have h2 : (asF y.mach (zf3 ms)).isSome = true ↔ 0 ≤ zj1 y.mach (ms.map zb3.id) := by
    rcases zn6 y.mach (ms.map zb3.id) with ⟨g, _⟩ | ⟨k, g, g2, _⟩
    · rw [yC9 g, g]; simp
    · rw [List.getElem?_map] at g2
      cases hk : ms[k]? with
      | none => rw [hk] at g2; cases g2
      | some m => rw [(zZ0 g hk).2, g]; simp
  unfold zB5 zB7
  rw [h1, h2]
  constructor
  · rintro ⟨⟨a, b⟩, c, d, e⟩; exact ⟨c, a, b, d, e⟩
  · rintro ⟨c, a, b, d, e⟩; exact ⟨⟨a, b⟩, c, d, e⟩
theorem ys7 {ps tk src : List (Int × Int)} {k : Nat} {s : Int × Int} (h : src[k]? = some s) : zf9 ps (tk ++ src.take k) (src.drop k) ↔ (zi6 ps s ∧ s ∉ tk ++ src.take k) ∧ zf9 ps (tk ++ src.take (k + 1)) (src.drop (k + 1)) := by
  rw [Go.Proofs.Ytdahckhlfldkkaa.drop_at h, zf9, Go.Proofs.Ytdahckhlfldkkaa.take_snoc h, List.append_assoc]
theorem ys1 {n : Int} {t : List Row} {k : Nat} {e : Row} (h : t[k]? = some e) : zf4 n ((t.take k).map Row.stop) (t.drop k) ↔ (e.stop ∉ (t.take k).map Row.stop ∧ 0 ≤ e.st ∧ e.st < n) ∧ zf4 n ((t.take (k + 1)).map Row.stop) (t.drop (k + 1)) := by
  rw [Go.Proofs.Ytdahckhlfldkkaa.drop_at h, zf4, Go.Proofs.Ytdahckhlfldkkaa.take_snoc h, List.map_append]
  rfl
theorem zt0 {l : List za3} {i : Nat} {y : za3} (hy : l[i]? = some y) {s : Int × Int} {k : Nat} : s ∈ tkF (l.take i) ++ y.src.take k ↔ (∃ j, j < i ∧ ∃ z, l[j]? = some z ∧ s ∈ z.src) ∨ s ∈ y.src.take k := by
  rw [List.mem_append]
  unfold tkF
  rw [List.mem_flatMap]
  constructor
  · rintro (⟨z, hz, hs⟩ | h)
    · obtain ⟨j, hj⟩ := List.getElem?_of_mem hz
      have hjl := (List.getElem?_eq_some_iff.1 hj).1
      rw [List.length_take] at hjl
      rw [List.getElem?_take_of_lt (by omega)] at hj
      exact .inl ⟨j, by omega, z, hj, hs⟩
    · exact .inr h
  · rintro (⟨j, hj, z, hz, hs⟩ | h)
    · exact .inl ⟨z, List.mem_of_getElem? (i := j) (by rw [List.getElem?_take_of_lt hj]; exact hz), hs⟩
    · exact .inr h
end Go.Sx.Plt
namespace Go.Proofs.Ytdahckhlfldkkaa
open Go Go.Sx Go.RowKit
theorem PlV.mids {w : World} {q : PlD} {p : Plt.i8} (h : PlV w q p) : q.ds.map MD.id = p.ms.map Plt.zb3.id := by
  apply List.ext_getElem?
  intro i
  rw [List.getElem?_map, List.getElem?_map]
  have hl := h.lm
  by_cases hi : i < p.ms.length
  · have h1 := List.getElem?_eq_getElem (show i < q.ds.length by omega)
    have h2 := List.getElem?_eq_getElem hi
    have := (h.machs i _ _ h1 h2).id
    rw [h1, h2]; simp [this]
  · rw [List.getElem?_eq_none (by omega), List.getElem?_eq_none (by omega)]; rfl
theorem PlV.pids {w : World} {q : PlD} {p : Plt.i8} (h : PlV w q p) : q.ys.map PD.id = p.passes.map Plt.za3.id := by
  apply List.ext_getElem?
  intro i
  rw [List.getElem?_map, List.getElem?_map]
  have hl := h.lp
  by_cases hi : i < p.passes.length
  · have h1 := List.getElem?_eq_getElem (show i < q.ys.length by omega)
    have h2 := List.getElem?_eq_getElem hi
    have := (h.pass i _ _ h1 h2).id
    rw [h1, h2]; simp [this]
  · rw [List.getElem?_eq_none (by omega), List.getElem?_eq_none (by omega)]; rfl
theorem ze4 {q : PlD} {p : Plt.i8} {x k : Int} (hk : Plt.zj1 x (p.ms.map Plt.zb3.id) = k) (w : World) (h : PlV w q p) : Calls Try.prog 24 #[sdV q.m, .int .i64 x] w fun e w' => e = .returned (.int .i64 k) ∧ Below w.heap.size w w' := by
  have := zR9 x w h.ms
  rw [h.mids, hk] at this; exact this
theorem zj3 {q : PlD} {p : Plt.i8} {x k : Int} (hk : Plt.zj1 x (p.passes.map Plt.za3.id) = k) (w : World) (h : PlV w q p) : Calls Try.prog 49 #[sdV q.p, .int .i64 x] w fun e w' => e = .returned (.int .i64 k) ∧ Below w.heap.size w w' := by
  have := ye6 x w h.ps
  rw [h.pids, hk] at this; exact this
theorem zr8 {q : PlD} {p : Plt.i8} {x k : Int} (hk : Plt.zj1 x (p.items.map Plt.Item.id) = k) (w : World) (h : PlV w q p) : Calls Try.prog 22 #[sdV q.i, .int .i64 x] w fun e w' => e = .returned (.int .i64 k) ∧ Below w.heap.size w w' := by
  have := ye5 x w h.items
  rw [hk] at this; exact this
theorem zp0 {x : Int} {b : Bool} (hb : decide (1 ≤ x ∧ x ≤ 999999) = b) (w : World) : Calls Try.prog 33 #[.int .i64 x] w fun e w' => e = .returned (.bool b) ∧ Below w.heap.size w w' := by
  subst hb; exact yr8 x w
theorem PassV.eqs {w : World} {d : PD} {y : Plt.za3} (h : PassV w d y) : ∃ x1 k1 x2 k2 x3 k3, d = ⟨y.id, y.mach, y.rel, (x1, y.src.length, k1), (x2, y.table.length, k2), (x3, y.unread.length, k3)⟩ := by
  obtain ⟨id, ma, re, s1, s2, s3⟩ := d
  obtain ⟨e1, e2, e3, h4, h5, h6⟩ := h
  dsimp only at e1 e2 e3 h4 h5 h6
  obtain ⟨x1, k1, rfl⟩ := SV.sd h4
  obtain ⟨x2, k2, rfl⟩ := SV.sd h5
  obtain ⟨x3, k3, rfl⟩ := SV.sd h6
  exact ⟨x1, k1, x2, k2, x3, k3, by rw [e1, e2, e3]⟩
theorem MachV.eqs {w : World} {d : MD} {m : Plt.zb3} (h : MachV w d m) : ∃ x1 k1 x2 k2, d = ⟨m.id, m.sweeps, m.rate, (x1, m.caps.length, k1), (x2, m.shifts.length, k2)⟩ := by
  obtain ⟨id, sw, ra, s1, s2⟩ := d
  obtain ⟨e1, e2, e3, h4, h5⟩ := h
  dsimp only at e1 e2 e3 h4 h5
  obtain ⟨x1, k1, rfl⟩ := SV.sd h4
  obtain ⟨x2, k2, rfl⟩ := SV.sd h5
  exact ⟨x1, k1, x2, k2, by rw [e1, e2, e3]⟩
end Go.Proofs.Ytdahckhlfldkkaa
namespace Go.Sx.Plt
open Go.Proofs.Ytdahckhlfldkkaa (zh3 psF tkF zl3 zi4 take_snoc)
def stF (p : i8) (y : za3) : Nat → Int
  | 0 => y.rel
  | k + 1 => match p.passes[k]? with
    | some z => if z.mach = y.mach ∧ stF p y k < zx2 p k then zx2 p k else stF p y k
    | none => stF p y k
theorem ya5 {p : i8} {y : za3} : ∀ k, y.rel ≤ stF p y k ∧ (∀ (j : Nat) (z : za3), j < k → p.passes[j]? = some z → z.mach = y.mach → zx2 p j ≤ stF p y k) ∧
    (stF p y k = y.rel ∨ ∃ (j : Nat) (z : za3), j < k ∧ p.passes[j]? = some z ∧ z.mach = y.mach ∧ zx2 p j = stF p y k)
  | 0 => ⟨Int.le_refl _, fun j z h => by omega, .inl rfl⟩
  | k + 1 => by
    obtain ⟨h1, h2, h3⟩ := ya5 (p := p) (y := y) k
    rw [stF]
    cases hk : p.passes[k]? with
    | none =>
      dsimp only
      refine ⟨h1, fun j z hj hz hm => ?_, ?_⟩
      · by_cases e : j = k
        · subst e; rw [hk] at hz; cases hz
        · exact h2 j z (by omega) hz hm
      · rcases h3 with h3 | ⟨j, z, hj, hz⟩
        · exact .inl h3
        · exact .inr ⟨j, z, by omega, hz⟩
    | some a =>
      dsimp only
      by_cases hc : a.mach = y.mach ∧ stF p y k < zx2 p k
      · rw [if_pos hc]
        refine ⟨by omega, fun j z hj hz hm => ?_, .inr ⟨k, a, by omega, hk, hc.1, rfl⟩⟩
        by_cases e : j = k
        · subst e; exact Int.le_refl _
        · have := h2 j z (by omega) hz hm; omega
      · rw [if_neg hc]
        refine ⟨h1, fun j z hj hz hm => ?_, ?_⟩
        · by_cases e : j = k
          · subst e; rw [hk] at hz; cases hz
            exact Int.not_lt.1 fun g => hc ⟨hm, g⟩
          · exact h2 j z (by omega) hz hm
        · rcases h3 with h3 | ⟨j, z, hj, hz⟩
          · exact .inl h3
          · exact .inr ⟨j, z, by omega, hz⟩
theorem yF8 {p : i8} (hv : Valid p) {y : za3} (h0 : 0 ≤ y.rel) (i : Nat) : stF p y i = max y.rel ((asF y.mach (za0 p i).free).getD 0) := by
  obtain ⟨h1, h2, h3⟩ := ya5 (p := p) (y := y) i
  obtain ⟨f1, f2, f3⟩ := free_spec hv i y.mach
  generalize (asF y.mach (za0 p i).free).getD 0 = F at *
  have hF : F ≤ stF p y i := by
    rcases f3 with f3 | ⟨j, z, hj, hz, hm, he⟩
    · omega
    · have := h2 j z hj hz hm; omega
  rcases h3 with h3 | ⟨j, z, hj, hz, hm, he⟩
  · omega
  · have := f2 j z hj hz hm; omega
theorem yI1 {p : i8} (hv : Valid p) {y : za3} (h0 : 0 ≤ y.rel ∧ y.rel ≤ 1051898399) (k : Nat) : 0 ≤ stF p y k ∧ stF p y k ≤ 1051898399 := by
  obtain ⟨h1, _, h3⟩ := ya5 (p := p) (y := y) k
  rcases h3 with h3 | ⟨j, z, hj, hz, hm, he⟩
  · omega
  · have := fin_bd hv j; omega
theorem yl6 {h : Hall} {start : Int} {items : List Int} {s : Int × Int} {r : List (Int × Int)} (h0 : s.1 = 0) : za5 h start items (s :: r) = za5 h start (items ++ h.row s) r := by
  rw [za5, if_neg (by simp [h0])]
theorem yt1 {h : Hall} {start e : Int} {items : List Int} {s : Int × Int} {r : List (Int × Int)} (h0 : s.1 ≠ 0) (he : asF s.1 h.ends = some e) : za5 h start items (s :: r) = za5 h (max start e) (items ++ h.row s) r := by
  rw [za5, if_pos h0, he]
theorem yt0 {h : Hall} {start : Int} {items : List Int} {s : Int × Int} {r : List (Int × Int)} (h0 : s.1 ≠ 0) (he : asF s.1 h.ends = none) : za5 h start items (s :: r) = none := by
  rw [za5, if_pos h0, he]
theorem Valid.pnd {p : i8} (hv : Valid p) {i j : Nat} {y z : za3} (hy : p.passes[i]? = some y) (hz : p.passes[j]? = some z) (he : y.id = z.id) : i = j := by
  have key : ∀ (a b : Nat) (u v : za3), p.passes[a]? = some u → p.passes[b]? = some v → a < b → u.id ≠ v.id := fun a b u v hu hw hab e => by
    have h1 := (hv.pok b v hw).1.1.1
    rw [zi7] at h1
    have hm : u.id ∈ (psF (zf3 p.ms) (p.passes.take b)).map Prod.fst := by
      rw [zx9]
      exact List.mem_map.2 ⟨u, List.mem_of_getElem? (i := a) (by rw [List.getElem?_take_of_lt hab]; exact hu), rfl⟩
    obtain ⟨q, hq, e2⟩ := List.mem_map.1 hm
    exact h1 q hq (by rw [e2, e])
  rcases Nat.lt_trichotomy i j with g | g | g
  · exact absurd he (key i j y z hy hz g)
  · exact g
  · exact absurd he.symm (key j i z y hz hy g)
theorem Valid.pass_id {p : i8} (hv : Valid p) {i : Nat} {y : za3} (hy : p.passes[i]? = some y) {r : Run} (hr : (za4 p)[i]? = some r) : r.pass = y.id := by
  obtain ⟨k, m, _, _, _, _, _, _, h⟩ := hv.run hy hr
  rcases h with h | ⟨_, h⟩
  · rw [h.eq]; rfl
  · exact h.pass
theorem zR4 {s : Int × Int} (hs : 0 ≤ s.2) (r : Run) : zM7 s r = if r.pass = s.1 then r.res.stackers.getD s.2.toNat [] else [] := by
  unfold zM7
  by_cases h1 : r.pass = s.1
  · rw [if_pos h1]
    by_cases h2 : s.2 < r.res.stackers.length
    · rw [if_pos ⟨h1, h2⟩]
    · rw [if_neg (fun g => h2 g.2), List.getD_eq_getElem?_getD, List.getElem?_eq_none (by omega)]; rfl
  · rw [if_neg h1, if_neg (fun g => h1 g.1)]
theorem zK5 {α : Type} {f : α → List Int} : ∀ {l : List α}, (∀ x ∈ l, f x = []) → l.flatMap f = []
  | [], _ => rfl
  | a :: l, h => by rw [List.flatMap_cons, h a (by simp), zK5 (fun x hx => h x (by simp [hx]))]; rfl
theorem zQ1 {α : Type} {f : α → List Int} {l : List α} {j : Nat} {r : α} (hj : l[j]? = some r) : ∀ (i : Nat), j < i → (∀ (k : Nat) (x : α), k < i → l[k]? = some x → k ≠ j → f x = []) → (l.take i).flatMap f = f r
  | 0, h, _ => by omega
  | i + 1, h, hk => by
    by_cases e : j = i
    · subst e
      rw [take_snoc hj, List.flatMap_append, zK5 (fun x hx => ?_)]
      · simp
      · obtain ⟨k, hkx⟩ := List.getElem?_of_mem hx
        have hkl := (List.getElem?_eq_some_iff.1 hkx).1
        rw [List.length_take] at hkl
        rw [List.getElem?_take_of_lt (by omega)] at hkx
        exact hk k x (by omega) hkx (by omega)
    · cases hx : l[i]? with
      | none => rw [List.take_add_one, hx]; simp only [Option.toList_none, List.append_nil]; exact zQ1 hj i (by omega) fun k x hki hkx hne => hk k x (by omega) hkx hne
      | some x =>
        rw [take_snoc hx, List.flatMap_append, zQ1 hj i (by omega) fun k x hki hkx hne => hk k x (by omega) hkx hne]
        have := hk i x (by omega) hx (by omega)
        simp [this]
theorem yr9 {p : i8} (hv : Valid p) (i : Nat) {b : Int} (hb : 0 ≤ b) : (za0 p i).row (0, b) = ze0 p.items (0, b) := by
  rw [hv.rows hb i, zK5, List.append_nil]
  intro r hr
  obtain ⟨k, hk⟩ := List.getElem?_of_mem hr
  have hkl := (List.getElem?_eq_some_iff.1 hk).1
  rw [List.length_take, zh4] at hkl
  rw [List.getElem?_take_of_lt (by omega)] at hk
  obtain ⟨y, hy⟩ : ∃ y, p.passes[k]? = some y := ⟨_, List.getElem?_eq_getElem (by omega)⟩
  rw [zR4 hb, if_neg]
  have h1 := hv.pass_id hy hk
  have h2 := (hv.pok k y hy).1.2.1
  unfold zB7 at h2
  dsimp only
  omega
theorem yy5 {p : i8} (hv : Valid p) {i j : Nat} {z : za3} {r : Run} {s : Int × Int} (hj : j < i) (hz : p.passes[j]? = some z) (hr : (za4 p)[j]? = some r) (hid : z.id = s.1) (h0 : s.1 ≠ 0) (hs : 0 ≤ s.2) : (za0 p i).row s = r.res.stackers.getD s.2.toNat [] := by
  rw [hv.rows hs i, zQ1 hr i hj]
  · rw [zR4 hs, if_pos (by rw [hv.pass_id hz hr, hid])]
    unfold ze0
    rw [if_neg h0]; rfl
  · intro k x hk hx hne
    obtain ⟨u, hu⟩ : ∃ y, p.passes[k]? = some y := ⟨_, List.getElem?_eq_getElem (by have := (List.getElem?_eq_some_iff.1 hx).1; rw [zh4] at this; omega)⟩
    rw [zR4 hs, if_neg]
    rw [hv.pass_id hu hx, ← hid]
    exact fun e => hne (hv.pnd hu hz e)
theorem yA8 {p : i8} (hv : Valid p) {i j : Nat} {z : za3} {x : Int} (hj : j < i) (hz : p.passes[j]? = some z) (hid : z.id = x) (h0 : 0 ≤ zx2 p j) : asF x (za0 p i).ends = some (zx2 p j) := (zK4 hv i x _).2 ⟨j, z, hj, hz, hid, rfl, h0⟩
theorem yA9 {p : i8} (hv : Valid p) {i j : Nat} {z : za3} {x : Int} (hz : p.passes[j]? = some z) (hid : z.id = x) (h0 : zx2 p j < 0) : asF x (za0 p i).ends = none := by
  cases he : asF x (za0 p i).ends with
  | none => rfl
  | some e =>
    obtain ⟨k, u, hk, hu, hui, hf, h1⟩ := (zK4 hv i x e).1 he
    have := hv.pnd hz hu (by rw [hid, hui])
    subst this
    omega
theorem yw6 {n : Nat} {r : Int} (hr : 1 ≤ r) : (if (n : Int) / r * r < n then (n : Int) / r + 1 else (n : Int) / r) = zb2 n r := by
  unfold zb2
  have h1 := zI2 (k := (n : Int) / r) (n := n) hr
  have h2 := zI2 (k := (n : Int) / r + 1) (n := n) hr
  have h3 := zI2 (k := (n : Int) / r - 1) (n := n) hr
  have h4 : (n : Int) < ((n : Int) / r + 1) * r := Int.lt_ediv_add_one_mul_self _ (by omega)
  have h5 : (n : Int) / r * r ≤ n := Int.ediv_mul_le _ (by omega)
  have h6 : ((n : Int) / r - 1) * r = (n : Int) / r * r - r := by rw [Int.sub_mul, Int.one_mul]
  split
  · rename_i h; omega
  · rename_i h; omega
theorem zC7 (t : Int) : ∀ l : List Sh, g8 t 0 l = []
  | [] => rfl
  | s :: r => by rw [g8, if_pos (.inl rfl), zC7 t r]
theorem zy2 : ∀ a b : List (Int × Int), zb6 (a ++ b) = zb6 a + zb6 b
  | [], b => by simp [zb6]
  | s :: a, b => by rw [List.cons_append, zb6, zb6, zy2 a b]; omega
theorem yf7 {t left : Int} {s : Sh} {r : List Sh} (hl : 0 < left) : g8 t left (s :: r) = if max s.f t < min s.t (max s.f t + left) then (max s.f t, min s.t (max s.f t + left)) :: g8 t (left - (min s.t (max s.f t + left) - max s.f t)) r else g8 t left r := by
  rw [g8]
  by_cases h : s.t ≤ max s.f t
  · rw [if_pos (.inr h), if_neg (by omega)]
  · rw [if_neg (by omega), if_pos (by omega)]
theorem yg1 {items : List Item} {k : Nat} {x : Item} : (items.map Item.id).Nodup → items[k]? = some x → asF x.id (zc1 items) = some x.stop := by
  refine zn3 (p := fun items => (items.map Item.id).Nodup → items[k]? = some x → asF x.id (zc1 items) = some x.stop) (by simp) (fun l a ih hn hx => ?_) items
  rw [zC9, zj6]
  rw [List.map_append, List.nodup_append] at hn
  by_cases hk : k < l.length
  · rw [List.getElem?_append_left hk] at hx
    rw [if_neg (fun e => hn.2.2 x.id (List.mem_map.2 ⟨x, List.mem_of_getElem? hx, rfl⟩) a.id (by simp) e.symm)]
    exact ih hn.1 hx
  · rw [List.getElem?_append_right (by omega)] at hx
    obtain rfl : a = x := by
      cases hkk : k - l.length with
      | zero => rw [hkk] at hx; simpa using hx
      | succ n => rw [hkk] at hx; simp at hx
    rw [if_pos rfl]
theorem rows_nodup {n : Int} : ∀ {l : List Row} {met : List Int}, zf4 n met l → (l.map Row.stop).Nodup ∧ ∀ e ∈ l, e.stop ∉ met
  | [], _, _ => by simp
  | a :: l, met, h => by
    rw [zf4] at h
    obtain ⟨h1, h2⟩ := rows_nodup h.2
    refine ⟨?_, fun e he => ?_⟩
    · rw [List.map_cons, List.nodup_cons]
      refine ⟨fun hm => ?_, h1⟩
      obtain ⟨e, he, e2⟩ := List.mem_map.1 hm
      exact h2 e he (by rw [e2]; simp)
    · rcases List.mem_cons.1 he with rfl | he
      · exact h.1.1
      · exact fun hm => h2 e he (List.mem_append_left _ hm)
theorem yg2 {l : List Row} : (l.map Row.stop).Nodup → (∀ e ∈ l, asF e.stop (zg7 l) = some e.st) ∧ ∀ s, s ∉ l.map Row.stop → asF s (zg7 l) = none := by
  refine zn3 (p := fun l => (l.map Row.stop).Nodup → (∀ e ∈ l, asF e.stop (zg7 l) = some e.st) ∧ ∀ s, s ∉ l.map Row.stop → asF s (zg7 l) = none) (by simp [zg7, asF]) (fun l a ih hn => ?_) l
  rw [List.map_append, List.nodup_append] at hn
  obtain ⟨i1, i2⟩ := ih hn.1
  rw [zw0]
  refine ⟨fun e he => ?_, fun s hs => ?_⟩
  · rw [zj6]
    rcases List.mem_append.1 he with he | he
    · rw [if_neg (fun g => hn.2.2 e.stop (List.mem_map.2 ⟨e, he, rfl⟩) a.stop (by simp) g.symm)]
      exact i1 e he
    · simp at he; subst he; rw [if_pos rfl]
  · rw [zj6]
    rw [List.map_append, List.mem_append] at hs
    rw [if_neg (fun g => hs (.inr (by simp [g])))]
    exact i2 s fun g => hs (.inl g)
theorem yc6 {stops : List (Int × Int)} {y : za3} {x : Int} (h : x ∈ y.unread) : (zb8 stops y x).st = -1 := by
  unfold zb8
  split
  · simp [h]
  · rfl
theorem yv1 {p : i8} (hv : Valid p) {y : za3} (hn : (y.table.map Row.stop).Nodup) {k : Nat} {a : Item} (ha : p.items[k]? = some a) (hu : a.id ∉ y.unread) {e : Row} (he : e ∈ y.table) (hs : e.stop = a.stop) : (zb8 (zc1 p.items) y a.id).st = e.st := by
  rw [yn1 (yg1 hv.ind ha)]
  unfold toF
  rw [if_pos (by simp [hu]), ← hs, (yg2 hn).1 e he]; rfl
theorem yC0 {p : i8} (hv : Valid p) {y : za3} (hn : (y.table.map Row.stop).Nodup) {k : Nat} {a : Item} (ha : p.items[k]? = some a) (hu : a.id ∉ y.unread) (hs : a.stop ∉ y.table.map Row.stop) : (zb8 (zc1 p.items) y a.id).st = -1 := by
  rw [yn1 (yg1 hv.ind ha)]
  unfold toF
  rw [if_pos (by simp [hu]), (yg2 hn).2 _ hs]; rfl
end Go.Sx.Plt
namespace Go.Sx.Srt
open Go.Sx.Seq (zm6 zl9)
def zK7 : List Ev → Int → Int
  | [], _ => 0
  | e :: r, k => if e.st = k ∧ e.kind = 2 then 0 else (if e.st = k ∧ e.kind = 1 then 1 else 0) + zK7 r k
def zt7 (l : List Ev) (k : Int) : Int := zK7 l.reverse k
theorem zv2 (l : List Ev) (e : Ev) (k : Int) : zt7 (l ++ [e]) k = if e.st = k ∧ e.kind = 2 then 0 else (if e.st = k ∧ e.kind = 1 then 1 else 0) + zt7 l k := by
  unfold zt7
  rw [List.reverse_append]
  rfl
def zf1 (l : List Ev) (k : Int) : List Int := (l.filter fun e => e.st = k ∧ e.kind = 1).map Ev.item
def zk8 (l : List Ev) (k : Int) : Int := l.countP fun e => e.st = k ∧ e.kind = 2
def kindOf (l : List Ev) (k : Int) : List Int := (l.filter fun e => e.kind = k).map Ev.item
theorem zl8 (l : List Ev) (e : Ev) (k : Int) : zf1 (l ++ [e]) k = zf1 l k ++ if e.st = k ∧ e.kind = 1 then [e.item] else [] := by
  unfold zf1
  rw [List.filter_append, List.map_append]
  by_cases h : e.st = k ∧ e.kind = 1 <;> simp [h]
theorem zp1 (l : List Ev) (e : Ev) (k : Int) : zk8 (l ++ [e]) k = zk8 l k + if e.st = k ∧ e.kind = 2 then 1 else 0 := by
  unfold zk8
  rw [List.countP_append]
  by_cases h : e.st = k ∧ e.kind = 2 <;> simp [h]
theorem zh1 (l : List Ev) (e : Ev) (k : Int) : kindOf (l ++ [e]) k = kindOf l k ++ if e.kind = k then [e.item] else [] := by
  unfold kindOf
  rw [List.filter_append, List.map_append]
  by_cases h : e.kind = k <;> simp [h]
structure Told (caps : List Int) (m : M) : Prop where
  held : ∀ k : Nat, k < caps.length → zt7 m.evs k = m.held.getD k 0
  st : ∀ k : Nat, k < caps.length → zf1 m.evs k = m.stackers.getD k []
  sw : ∀ k : Nat, k < caps.length → zk8 m.evs k = m.swept.getD k 0
  ov : kindOf m.evs 3 = m.over
  rj : kindOf m.evs 4 = m.rej
theorem Told.new (caps : List Int) (s : Int) : Told caps (M.new caps.length s) :=
  ⟨fun k hk => by simp [M.new, zt7, zK7, hk], fun k hk => by simp [M.new, zf1, hk], fun k hk => by simp [M.new, zk8, hk], rfl, rfl⟩
theorem Told.take {caps : List Int} {m : M} {f : Fd} (h : Told caps m) (hz : Sz caps.length m) (hf : -1 ≤ f.st ∧ f.st < caps.length) : Told caps (zg0 caps m f) := by
  have z1 := hz.st
  have z2 := hz.sw
  have z3 := hz.hd
  rcases zu5 caps m f with ⟨h0, e⟩ | ⟨h0, _, e⟩ | ⟨h0, _, _, e⟩ | ⟨h0, _, _, e⟩ <;> rw [e]
  · refine ⟨fun k hk => ?_, fun k hk => ?_, fun k hk => ?_, ?_, ?_⟩
    · simp only [note, zv2, h.held k hk]; simp
    · simp only [note, zl8, h.st k hk]; simp
    · simp only [note, zp1, h.sw k hk]; simp
    · simp only [note, zh1, h.ov]; simp
    · simp only [note, zh1, h.rj]; simp
  · refine ⟨fun k hk => ?_, fun k hk => ?_, fun k hk => ?_, ?_, ?_⟩
    · simp only [note, zd9, zv2, h.held k hk, zh5, z3]
      by_cases g : f.st = (k : Int)
      · have gk : f.st.toNat = k := by omega
        simp [-List.getD_eq_getElem?_getD, g, gk, hk, Int.add_comm]
      · have gk : ¬ f.st.toNat = k := by omega
        simp [-List.getD_eq_getElem?_getD, g, gk]
    · simp only [note, zd9, zl8, h.st k hk, zq1, z1]
      by_cases g : f.st = (k : Int)
      · have gk : f.st.toNat = k := by omega
        simp [-List.getD_eq_getElem?_getD, g, gk, hk, Int.add_comm]
      · have gk : ¬ f.st.toNat = k := by omega
        simp [-List.getD_eq_getElem?_getD, g, gk]
    · simp only [note, zd9, zp1, h.sw k hk]; simp
    · simp only [note, zd9, zh1, h.ov]; simp
    · simp only [note, zd9, zh1, h.rj]; simp
  · have e2 : ∀ l : List Ev, l ++ [(⟨2, f.item, f.st⟩ : Ev), ⟨1, f.item, f.st⟩] = l ++ [(⟨2, f.item, f.st⟩ : Ev)] ++ [⟨1, f.item, f.st⟩] := fun l => by simp
    refine ⟨fun k hk => ?_, fun k hk => ?_, fun k hk => ?_, ?_, ?_⟩
    · simp only [note, zd9, e2, zv2, h.held k hk, zh5, zt6, List.length_set, z3]
      by_cases g : f.st = (k : Int)
      · have gk : f.st.toNat = k := by omega
        simp [-List.getD_eq_getElem?_getD, g, gk, hk, Int.add_comm]
      · have gk : ¬ f.st.toNat = k := by omega
        simp [-List.getD_eq_getElem?_getD, g, gk]
    · simp only [note, zd9, e2, zl8, h.st k hk, zq1, z1]
      by_cases g : f.st = (k : Int)
      · have gk : f.st.toNat = k := by omega
        simp [-List.getD_eq_getElem?_getD, g, gk, hk, Int.add_comm]
      · have gk : ¬ f.st.toNat = k := by omega
        simp [-List.getD_eq_getElem?_getD, g, gk]
    · simp only [note, zd9, e2, zp1, h.sw k hk, zh5, z2]
      by_cases g : f.st = (k : Int)
      · have gk : f.st.toNat = k := by omega
        simp [-List.getD_eq_getElem?_getD, g, gk, hk, Int.add_comm]
      · have gk : ¬ f.st.toNat = k := by omega
        simp [-List.getD_eq_getElem?_getD, g, gk]
    · simp only [note, zd9, e2, zh1, h.ov]; simp
    · simp only [note, zd9, e2, zh1, h.rj]; simp
  · refine ⟨fun k hk => ?_, fun k hk => ?_, fun k hk => ?_, ?_, ?_⟩
    · simp only [note, zv2, h.held k hk]; simp
    · simp only [note, zl8, h.st k hk]; simp
    · simp only [note, zp1, h.sw k hk]; simp
    · simp only [note, zh1, h.ov]; simp
    · simp only [note, zh1, h.rj]; simp
theorem zR6 {caps : List Int} {s : Int} : ∀ l : List Fd, (∀ f ∈ l, -1 ≤ f.st ∧ f.st < caps.length) → Told caps (za4 caps s l) := by
  refine zD4 ?_ ?_
  · intro _; exact Told.new _ _
  · intro l f ih hl
    rw [zz4]
    exact (ih fun x hx => hl x (List.mem_append_left _ hx)).take (zI5 _ _ _) (hl f (by simp))
def zB3 (caps : List Int) (o : List Ev × Int) (f : Fd) : List Ev × Int :=
  if f.st = -1 then (o.1 ++ [⟨4, f.item, -1⟩], o.2) else
  if zt7 o.1 f.st = caps.getD f.st.toNat 0 then
    if o.2 = 0 then (o.1 ++ [⟨3, f.item, f.st⟩], o.2) else (o.1 ++ [⟨2, f.item, f.st⟩, ⟨1, f.item, f.st⟩], o.2 - 1)
  else (o.1 ++ [⟨1, f.item, f.st⟩], o.2)
def evF (caps : List Int) (s : Int) (l : List Fd) : List Ev × Int := l.foldl (zB3 caps) ([], s)
theorem zH5 (caps : List Int) (s : Int) (l : List Fd) (f : Fd) : evF caps s (l ++ [f]) = zB3 caps (evF caps s l) f := by simp [evF]
theorem yJ4 {caps : List Int} {s : Int} (hc : ∀ c ∈ caps, 1 ≤ c) (hs : 0 ≤ s) : ∀ l : List Fd, (∀ f ∈ l, -1 ≤ f.st ∧ f.st < caps.length) → evF caps s l = ((za4 caps s l).evs, (za4 caps s l).left) := by
  refine zD4 ?_ ?_
  · intro _; rfl
  · intro l f ih hl
    have hl' : ∀ f ∈ l, -1 ≤ f.st ∧ f.st < caps.length := fun x hx => hl x (List.mem_append_left _ hx)
    have hf := hl f (by simp)
    have hi := yr2 (s := s) hc hs (fun x hx => (hl' x hx).2)
    have ht := zR6 (s := s) l hl'
    rw [zz4, zH5, ih hl']
    generalize za4 caps s l = m at hi ht
    unfold zB3
    by_cases h1 : f.st = -1
    · rw [if_pos h1]
      have e : zg0 caps m f = note { m with rej := m.rej ++ [f.item] } [⟨4, f.item, -1⟩] := by unfold zg0; rw [if_pos (by omega)]
      rw [e]; rfl
    · rw [if_neg h1]
      have hk : f.st.toNat < caps.length := by omega
      have hh := ht.held _ hk
      have hb := hi.held _ hk
      have hl0 := hi.left0
      rw [show ((f.st.toNat : Nat) : Int) = f.st from by omega] at hh
      simp only []
      rw [hh]
      by_cases h2 : m.held.getD f.st.toNat 0 = caps.getD f.st.toNat 0
      · rw [if_pos h2]
        by_cases h3 : m.left = 0
        · have e : zg0 caps m f = note { m with over := m.over ++ [f.item] } [⟨3, f.item, f.st⟩] := by unfold zg0; rw [if_neg (by omega), if_neg (by omega), if_neg (by omega)]
          rw [if_pos h3, e]; rfl
        · have e : zg0 caps m f = zd9 (note { m with left := m.left - 1, held := m.held.set f.st.toNat 0, swept := zm6 m.swept f.st.toNat 1 } [⟨2, f.item, f.st⟩, ⟨1, f.item, f.st⟩]) f := by unfold zg0; rw [if_neg (by omega), if_neg (by omega), if_pos (by omega)]
          rw [if_neg h3, e]; rfl
      · have e : zg0 caps m f = zd9 (note m [⟨1, f.item, f.st⟩]) f := by unfold zg0; rw [if_neg (by omega), if_pos (by omega)]
        rw [if_neg h2, e]; rfl
end Go.Sx.Srt
namespace Go.Sx
open Go Go.RowKit
section
variable {P : Program} {n : Nat} {D : List Deferred} {w0 : World} {F : List (Nat × Value)} {L : List Ent} {J J1 : Made} {Φ : ze9} {X : Act → World → Prop} {kq : Nat} {ops : Array Oper}
variable {d : Tmp} {ty : TypeId} {pos : String} {af : Array Edge} {rest : List Oper}
theorem yy3 {x y : Operand} {m l v : Int} {t u : TypeId} (hx : ev F x = some (.int .i64 m)) (hy : ev F y = some (.int .i64 l)) (e : m - l = v) (hr : -9223372036854775808 ≤ v ∧ v ≤ 9223372036854775807) (hd : Nat.ble (d + 1) n = true) (h : St n D w0 ((d, .int .i64 v) :: F) L (WQ P ops w0 L Φ X (kq + 1) J rest)) : St n D w0 F L (WQ P ops w0 L Φ X kq J (⟨some d, .binOp .sub t x y u, ty, pos, af, none⟩ :: rest)) := by subst e; exact yN9 hx hy hd hr h
end
end Go.Sx
namespace Go.Sx.Srt
theorem yi6 (caps : List Int) (o : List Ev × Int) (f : Fd) : (zB3 caps o f).1.length ≤ o.1.length + 2 := by
  unfold zB3
  split
  · simp
  · split
    · split <;> simp
    · simp
theorem yn0 (caps : List Int) (s : Int) : ∀ l : List Fd, (evF caps s l).1.length ≤ 2 * l.length := by
  apply zD4
  · simp [evF]
  · intro l f h
    rw [zH5, List.length_append]
    have := yi6 caps (evF caps s l) f
    simp only [List.length_cons, List.length_nil]
    omega
theorem yu7 (caps : List Int) {s : Int} (hs : 0 ≤ s) : ∀ l : List Fd, 0 ≤ (evF caps s l).2 ∧ (evF caps s l).2 ≤ s := by
  apply zD4
  · simp [evF]; omega
  · intro l f h
    rw [zH5]
    unfold zB3
    split
    · exact h
    · split
      · split
        · exact h
        · dsimp only; omega
      · exact h
theorem yl4 (l : List Ev) (k : Int) : 0 ≤ zk8 l k ∧ zk8 l k ≤ l.length := by
  unfold zk8
  have := List.countP_le_length (p := fun e : Ev => decide (e.st = k ∧ e.kind = 2)) (l := l)
  omega
def yo7 (n : Nat) (l : List Ev) : M := ⟨(List.range n).map fun (k : Nat) => zf1 l k, (List.range n).map fun (k : Nat) => zk8 l k, kindOf l 3, kindOf l 4, l, [], 0⟩
structure yG4 (a b : M) : Prop where
  st : a.stackers = b.stackers
  sw : a.swept = b.swept
  ov : a.over = b.over
  rj : a.rej = b.rej
  ev : a.evs = b.evs
theorem yt2 {caps : List Int} {s : Int} {l : List Fd} (hc : ∀ c ∈ caps, 1 ≤ c) (hs : 0 ≤ s) (hl : ∀ f ∈ l, -1 ≤ f.st ∧ f.st < caps.length) : yG4 (yo7 caps.length (evF caps s l).1) (za4 caps s l) := by
  have ht := zR6 (s := s) l hl
  have hz := zI5 caps s l
  rw [yJ4 hc hs l hl]
  refine ⟨?_, ?_, ht.ov, ht.rj, rfl⟩
  · show (List.range caps.length).map _ = _
    rw [yq3 hz.st]
    exact List.map_congr_left fun k hk => ht.st k (List.mem_range.1 hk)
  · show (List.range caps.length).map _ = _
    apply List.ext_getElem?
    intro k
    by_cases hk : k < caps.length
    · have h1 := ht.sw k hk
      rw [List.getElem?_map, List.getElem?_range hk, Option.map_some, h1, List.getD_eq_getElem?_getD, List.getElem?_eq_getElem (by rw [hz.sw]; exact hk), Option.getD_some]
    · rw [List.getElem?_eq_none (by simp; omega), List.getElem?_eq_none (by rw [hz.sw]; omega)]
end Go.Sx.Srt
namespace Go.Proofs.Ytdahckhlfldkkaa
open Go Go.Sx Go.RowKit
attribute [local irreducible] WL WC WQ WR WB WF QB St Exit.then Exit.inBlock Exit.noGoto bodyPost roundPost zc9 YR RG BM Calls B zd4 zf2
set_option maxHeartbeats 4000000 in
theorem yb6 {v : Value} {l : List Plt.Sh} (w : World) (h : SV w 2 zr1 v l) : Calls Try.prog 32 #[.slice none 0 0, v] w fun e w' => e = .returned (.tuple #[.int .i64 (Plt.zb5 [] l).1, .int .i64 (Plt.zb5 [] l).2]) ∧ Below w.heap.size w w' := by
  obtain ⟨a0, ca, rfl, hca, hop⟩ := h.open
  by_cases hb : 200 < l.length
  · rw [show Plt.zb5 [] l = (0, 5) by unfold Plt.zb5; rw [if_pos (.inr hb)]]
    refine za6 Try.func32 rfl Try.ntmps32 rfl (Rep.start w) ?_
    repeat' (first | (apply v8; exact rfl; exact dT_) | (apply p9; exact rfl; exact dF_; exact rfl; exact rfl) | (apply j0; exact rfl; exact dF_) | ((first | apply w9 | apply y8 | apply x9); exact rfl; exact rfl) | ((first | apply p4 | apply n0 | apply d9); exact rfl; exact rfl; exact rfl) | (apply n8; infer_instance; exact rfl; exact rfl) | ((first | apply s9 | apply x8 | apply z8 | apply s7 | apply s8 | apply w4 | apply z9 | apply w5)) | ((first | apply w6 | apply z6 | apply z0 | apply p7 | apply y0 | apply z7)))
    apply o0; apply zf8 Try.results32; exact rV_; exact rV_; intro w' hw
    exact ⟨rfl, hw.below (by simp)⟩
  have e0 : Plt.zb5 [] l = (match Plt.zi5 0 0 l with | some i => (i, 301) | none => (0, 0)) := by
    unfold Plt.zb5
    rw [if_neg (by simp; omega)]
    rfl
  rw [e0]
  refine za6 Try.func32 rfl Try.ntmps32 rfl (Rep.start w) ?_
  repeat' (first | (apply v9; exact rfl; exact dF_) | (apply p9; exact rfl; exact dF_; exact rfl; exact rfl) | (apply j0; exact rfl; exact dF_) | ((first | apply w9 | apply y8 | apply x9); exact rfl; exact rfl) | ((first | apply p4 | apply n0 | apply d9); exact rfl; exact rfl; exact rfl) | (apply n8; infer_instance; exact rfl; exact rfl) | ((first | apply s9 | apply x8 | apply z8 | apply s7 | apply s8 | apply w4 | apply z9 | apply w5)) | ((first | apply w6 | apply z6 | apply z0 | apply p7 | apply y0 | apply z7)))
  apply yA5
  repeat' (first | (apply v9; exact rfl; exact dF_) | ((first | apply w9 | apply y8 | apply x9); exact rfl; exact rfl) | ((first | apply p4 | apply n0 | apply d9); exact rfl; exact rfl; exact rfl) | (apply n8; infer_instance; exact rfl; exact rfl) | ((first | apply s9 | apply x8 | apply z8 | apply s7 | apply s8 | apply w4 | apply z9 | apply w5)) | ((first | apply w6 | apply z6 | apply z0 | apply p7 | apply y0 | apply z7)))
  apply i9 (σ := Nat) (Fs := fun i => [(8, .int .i64 i), (1, .slice a0 l.length ca)]) (Ls := fun _ => []) (I := fun i => i ≤ l.length ∧ Plt.zi5 0 0 l = Plt.zi5 (zt8 (l.take i)) i (l.drop i) ∧ 0 ≤ zt8 (l.take i)) (μ := fun i => l.length - i) (s0 := 0)
  · exact ⟨Nat.zero_le _, by simp [zt8], by simp [zt8]⟩
  · exact fS_
  · exact hS_
  rintro i ⟨hi, hw0, hl0⟩
  by_cases hlt : i < l.length
  · obtain ⟨⟨f, t⟩, hx⟩ : ∃ s, l[i]? = some s := ⟨_, List.getElem?_eq_getElem hlt⟩
    obtain ⟨b, off, cc, e, fz, rfl, hk, hp⟩ := hop (by omega)
    have h1 : ∀ j u, ([.int .i64 f, .int .i64 t] : List Value)[j]? = some u → cc[off + i * 2 + j]? = some u := hp.get hx
    have e1 : zt8 (l.take (i + 1)) = t := by rw [take_snoc hx, zG3]
    rw [drop_at hx, Plt.zi5] at hw0
    rcases i with _ | k
    · rw [show zt8 (l.take 0) = 0 by simp [zt8]] at hw0 hl0
      by_cases hok : Plt.Sh.ok 0 ⟨f, t⟩
      · rw [if_pos hok] at hw0
        unfold Plt.Sh.ok at hok
        dsimp only at hok hw0
        as_aux_lemma =>
          repeat' (first | ((first | apply w9 | apply y8 | apply x9); exact rfl; exact rfl) | (apply w7; first | refine u9 (h := ?_) | refine y9 (h := ?_) | refine w8 (h := ?_) | refine q7 (h := ?_) | refine q6 (h := ?_)) | ((first | apply p4 | apply n0 | apply d9); exact rfl; exact rfl; exact rfl) | ((first | apply j8 | apply ze3); exact rfl; exact rfl; exact rfl; (constructor <;> omega)) | (apply o8; exact rfl; intro _) | (apply q8; first | refine q9 (h := ?_) | refine p3 (h := ?_)) | (apply n8; infer_instance; exact rfl; exact rfl) | (apply l0; infer_instance; infer_instance; exact rfl; exact rfl; (first | exact rfl | omega); exact rfl; (first | assumption | omega | decide)) | ((first | apply s9 | apply x8 | apply z8 | apply s7 | apply s8 | apply w4 | apply z9 | apply w5)) | (apply v8; exact rfl; exact tT_) | (apply v9; exact rfl; exact fF_) | ((first | apply w6 | apply z6 | apply z0 | apply p7 | apply y0 | apply z7)) | ((apply p8 (id := 13) []); kernel_rfl; kernel_rfl) | (apply za7; try simp only [zb1, List.cons_append, List.nil_append]) | ((first | apply g9 | apply m0 | apply m8); exact rfl; exact rfl) | (apply m5; first | refine k9 (h := ?_) | refine o7 (h := ?_) | refine m6 (h := ?_) | refine d6 (h := ?_) | refine f4 (h := ?_)) | ((first | apply ze7 | apply zh2 | apply zm2); exact rfl; exact rfl; exact rfl) | (apply zj2; exact rfl; exact fF_; exact rfl; exact rfl) | ((first | apply zx4); exact rfl; exact gG_) | (apply zw1; exact rfl; exact gG_; exact rfl))
          all_goals first
            | (exfalso; omega)
            | skip
          refine o9 (0 + 1) ⟨by omega, by rw [e1]; exact hw0, by rw [e1]; omega⟩ (by omega) ?_ ?_
          · exact fS_
          · exact hS_
      · rw [if_neg hok] at hw0
        rw [hw0]
        unfold Plt.Sh.ok at hok
        dsimp only at hok
        as_aux_lemma =>
          repeat' (first | ((first | apply w9 | apply y8 | apply x9); exact rfl; exact rfl) | (apply w7; first | refine u9 (h := ?_) | refine y9 (h := ?_) | refine w8 (h := ?_) | refine q7 (h := ?_) | refine q6 (h := ?_)) | ((first | apply p4 | apply n0 | apply d9); exact rfl; exact rfl; exact rfl) | (apply o8; exact rfl; intro _) | (apply q8; first | refine q9 (h := ?_) | refine p3 (h := ?_)) | (apply n8; infer_instance; exact rfl; exact rfl) | (apply l0; infer_instance; infer_instance; exact rfl; exact rfl; (first | exact rfl | omega); exact rfl; (first | assumption | omega | decide)) | ((first | apply s9 | apply x8 | apply z8 | apply s7 | apply s8 | apply w4 | apply z9 | apply w5)) | (apply v8; exact rfl; exact tT_) | ((first | apply w6 | apply z6 | apply z0 | apply p7 | apply y0 | apply z7)) | ((apply p8 (id := 13) []); kernel_rfl; kernel_rfl) | (apply za7; try simp only [zb1, List.cons_append, List.nil_append]) | ((first | apply g9 | apply m0 | apply m8); exact rfl; exact rfl) | (apply m5; first | refine k9 (h := ?_) | refine o7 (h := ?_) | refine m6 (h := ?_) | refine d6 (h := ?_) | refine f4 (h := ?_)) | ((first | apply ze7 | apply zh2 | apply zm2); exact rfl; exact rfl; exact rfl) | (apply zn1; exact rfl; exact tT_; exact rfl; exact rfl) | (apply zj2; exact rfl; exact fF_; exact rfl; exact rfl) | ((first | apply zx4); exact rfl; exact gG_) | (apply zw1; exact rfl; exact gG_; exact rfl) | (apply zH8; exact rfl; exact rfl) | (apply zx5; exact rfl; intro hcond; rotate_left; intro hcond; rotate_left))
          all_goals first
            | (exfalso; omega)
            | (apply o0; apply zf8 Try.results32; exact rV_; exact rV_; intro w' hw; exact ⟨rfl, hw.below (by simp)⟩)
    · obtain ⟨⟨f', t'⟩, hx'⟩ : ∃ s, l[k]? = some s := ⟨_, List.getElem?_eq_getElem (by omega)⟩
      have h2 : ∀ j u, ([.int .i64 f', .int .i64 t'] : List Value)[j]? = some u → cc[off + k * 2 + j]? = some u := hp.get hx'
      have e2 : zt8 (l.take (k + 1)) = t' := by rw [take_snoc hx', zG3]
      rw [e2] at hw0 hl0
      by_cases hok : Plt.Sh.ok t' ⟨f, t⟩
      · rw [if_pos hok] at hw0
        unfold Plt.Sh.ok at hok
        dsimp only at hok hw0
        as_aux_lemma =>
          repeat' (first | ((apply yy3 (v := (k : Int))); exact rfl; exact rfl; omega; (constructor <;> omega); exact rfl) | ((apply zc4 (m := k)); infer_instance; infer_instance; exact rfl; exact rfl; exact rfl; exact rfl; omega) | ((first | apply w9 | apply y8 | apply x9); exact rfl; exact rfl) | (apply w7; first | refine u9 (h := ?_) | refine y9 (h := ?_) | refine w8 (h := ?_) | refine q7 (h := ?_) | refine q6 (h := ?_)) | ((first | apply p4 | apply n0 | apply d9); exact rfl; exact rfl; exact rfl) | ((first | apply j8 | apply ze3); exact rfl; exact rfl; exact rfl; (constructor <;> omega)) | (apply o8; exact rfl; intro _) | (apply q8; first | refine q9 (h := ?_) | refine p3 (h := ?_)) | (apply n8; infer_instance; exact rfl; exact rfl) | (apply l0; infer_instance; infer_instance; exact rfl; exact rfl; (first | exact rfl | omega); exact rfl; (first | assumption | omega | decide)) | ((first | apply s9 | apply x8 | apply z8 | apply s7 | apply s8 | apply w4 | apply z9 | apply w5)) | (apply v8; exact rfl; exact tT_) | (apply v9; exact rfl; exact fF_) | ((first | apply w6 | apply z6 | apply z0 | apply p7 | apply y0 | apply z7)) | ((apply p8 (id := 13) []); kernel_rfl; kernel_rfl) | (apply za7; try simp only [zb1, List.cons_append, List.nil_append]) | ((first | apply g9 | apply m0 | apply m8); exact rfl; exact rfl) | (apply zb9; exact rfl; exact rfl) | (apply m5; first | refine k9 (h := ?_) | refine o7 (h := ?_) | refine m6 (h := ?_) | refine d6 (h := ?_) | refine f4 (h := ?_)) | ((first | apply ze7 | apply zh2 | apply zm2); exact rfl; exact rfl; exact rfl) | (apply zn1; exact rfl; exact tT_; exact rfl; exact rfl) | (apply zj2; exact rfl; exact fF_; exact rfl; exact rfl) | ((first | apply zx4); exact rfl; exact gG_))
          all_goals first
            | (exfalso; omega)
            | skip
          refine o9 (k + 1 + 1) ⟨by omega, by rw [e1]; exact hw0, by rw [e1]; omega⟩ (by omega) ?_ ?_
          · exact fS_
          · exact hS_
      · rw [if_neg hok] at hw0
        rw [hw0]
        unfold Plt.Sh.ok at hok
        dsimp only at hok
        as_aux_lemma =>
          repeat' (first | ((apply yy3 (v := (k : Int))); exact rfl; exact rfl; omega; (constructor <;> omega); exact rfl) | ((apply zc4 (m := k)); infer_instance; infer_instance; exact rfl; exact rfl; exact rfl; exact rfl; omega) | ((first | apply w9 | apply y8 | apply x9); exact rfl; exact rfl) | (apply w7; first | refine u9 (h := ?_) | refine y9 (h := ?_) | refine w8 (h := ?_) | refine q7 (h := ?_) | refine q6 (h := ?_)) | ((first | apply p4 | apply n0 | apply d9); exact rfl; exact rfl; exact rfl) | (apply o8; exact rfl; intro _) | (apply q8; first | refine q9 (h := ?_) | refine p3 (h := ?_)) | (apply n8; infer_instance; exact rfl; exact rfl) | (apply l0; infer_instance; infer_instance; exact rfl; exact rfl; (first | exact rfl | omega); exact rfl; (first | assumption | omega | decide)) | ((first | apply s9 | apply x8 | apply z8 | apply s7 | apply s8 | apply w4 | apply z9 | apply w5)) | (apply v8; exact rfl; exact tT_) | ((first | apply w6 | apply z6 | apply z0 | apply p7 | apply y0 | apply z7)) | ((apply p8 (id := 13) []); kernel_rfl; kernel_rfl) | (apply za7; try simp only [zb1, List.cons_append, List.nil_append]) | ((first | apply g9 | apply m0 | apply m8); exact rfl; exact rfl) | (apply zb9; exact rfl; exact rfl) | (apply m5; first | refine k9 (h := ?_) | refine o7 (h := ?_) | refine m6 (h := ?_) | refine d6 (h := ?_) | refine f4 (h := ?_)) | ((first | apply ze7 | apply zh2 | apply zm2); exact rfl; exact rfl; exact rfl) | (apply zn1; exact rfl; exact tT_; exact rfl; exact rfl) | (apply zj2; exact rfl; exact fF_; exact rfl; exact rfl) | ((first | apply zx4); exact rfl; exact gG_) | (apply zw1; exact rfl; exact gG_; exact rfl) | (apply zH8; exact rfl; exact rfl) | (apply zx5; exact rfl; intro hcond; rotate_left; intro hcond; rotate_left))
          all_goals first
            | (exfalso; omega)
            | (apply o0; apply zf8 Try.results32; exact rV_; exact rV_; intro w' hw; exact ⟨rfl, hw.below (by simp)⟩)
  rw [List.drop_of_length_le (by omega), Plt.zi5] at hw0
  rw [hw0]
  repeat' (first | (apply v9; exact rfl; exact dF_) | ((first | apply w9 | apply y8 | apply x9); exact rfl; exact rfl) | ((first | apply p4 | apply n0 | apply d9); exact rfl; exact rfl; exact rfl) | (apply n8; infer_instance; exact rfl; exact rfl) | ((first | apply s9 | apply x8 | apply z8 | apply s7 | apply s8 | apply w4 | apply z9 | apply w5)) | ((first | apply w6 | apply z6 | apply z0 | apply p7 | apply y0 | apply z7)))
  apply o0; apply zf8 Try.results32; exact rV_; exact rV_; intro w' hw
  exact ⟨rfl, hw.below (by simp)⟩
end Go.Proofs.Ytdahckhlfldkkaa
namespace Go.Proofs.Ytdahckhlfldkkaa
open Go Go.Sx Go.RowKit
attribute [local irreducible] WL WC WQ WR WB WF QB St Exit.then Exit.inBlock Exit.noGoto bodyPost roundPost zc9 YR RG BM Calls B zd4 zf2
theorem yh3 {v : Value} {caps : List Int} (w : World) (h : SV w 1 encI v caps) : Calls Try.prog 45 #[v] w fun e w' => e = .returned (.bool (B (Srt.zo5 caps))) ∧ Below w.heap.size w w' := by
  obtain ⟨a0, ca, rfl, hca, hop⟩ := h.open
  refine zd3 Try.func45 rfl Try.ntmps45 rfl (Rep.start w) ?_
  repeat' (first | ((first | apply w9 | apply y8); exact rfl; exact rfl) | ((first | apply s9 | apply x8 | apply z8 | apply s7 | apply s8 | apply w4 | apply z9 | apply w5)) | ((first | apply w6 | apply z6 | apply z0 | apply p7 | apply y0 | apply z7)))
  apply i9 (σ := Nat) (Fs := fun i => [(3, .int .i64 i), (0, .slice a0 caps.length ca)]) (Ls := fun i => []) (I := fun i => i ≤ caps.length ∧ ∀ c ∈ caps.take i, 1 ≤ c ∧ c ≤ 100000) (μ := fun i => caps.length - i) (s0 := 0)
  · exact ⟨Nat.zero_le _, by simp⟩
  · exact fS_
  · exact hS_
  rintro i ⟨hi, hin⟩
  by_cases hlt : i < caps.length
  · obtain ⟨c, hx⟩ : ∃ c, caps[i]? = some c := ⟨_, List.getElem?_eq_getElem hlt⟩
    obtain ⟨b, off, cc, e, fz, rfl, hk, hp⟩ := hop (by omega)
    have h1 := hp.one hx rfl
    by_cases hc : 1 ≤ c ∧ c ≤ 100000
    · repeat' (first | (apply v8; exact rfl; exact dT_) | (apply v9; exact rfl; exact dF_) | (apply p9; exact rfl; exact dF_; exact rfl; exact rfl) | (apply j0; exact rfl; exact dF_) | ((first | apply w9 | apply y8); exact rfl; exact rfl) | (apply w7; first | refine u9 (h := ?_) | refine y9 (h := ?_) | refine w8 (h := ?_) | refine q7 (h := ?_) | refine q6 (h := ?_)) | ((first | apply p4 | apply n0); exact rfl; exact rfl; exact rfl) | (apply j8; exact rfl; exact rfl; exact rfl; (constructor <;> omega)) | (apply n8; infer_instance; exact rfl; exact rfl) | (apply l0; infer_instance; infer_instance; exact rfl; exact rfl; (first | exact rfl | omega); exact rfl; (first | assumption | omega | decide)) | ((first | apply s9 | apply x8 | apply z8 | apply s7 | apply s8 | apply w4 | apply z9 | apply w5)) | ((first | apply w6 | apply z6 | apply z0 | apply p7 | apply y0 | apply z7)))
      refine o9 (i + 1) ⟨by omega, zg8 hx hin hc⟩ (by omega) ?_ ?_
      · exact fS_
      · exact hS_
    · rw [zb4 (fun h => hc (h.2 c (List.mem_of_getElem? hx)))]
      repeat' (first | (apply v8; exact rfl; exact dT_) | (apply n9; exact rfl; exact dT_; exact rfl; exact rfl) | (apply p9; exact rfl; exact dF_; exact rfl; exact rfl) | (apply j0; exact rfl; exact dF_) | (apply za2; exact rfl; exact dT_; exact rfl) | ((first | apply w9 | apply y8); exact rfl; exact rfl) | (apply w7; first | refine u9 (h := ?_) | refine y9 (h := ?_) | refine w8 (h := ?_) | refine q7 (h := ?_) | refine q6 (h := ?_)) | ((first | apply p4 | apply n0); exact rfl; exact rfl; exact rfl) | (apply n8; infer_instance; exact rfl; exact rfl) | (apply l0; infer_instance; infer_instance; exact rfl; exact rfl; (first | exact rfl | omega); exact rfl; (first | assumption | omega | decide)) | ((first | apply s9 | apply x8 | apply z8 | apply s7 | apply s8 | apply w4 | apply z9 | apply w5)) | (apply v8; exact rfl; exact tT_) | ((first | apply w6 | apply z6 | apply z0 | apply p7 | apply y0 | apply z7)) | (apply zd0; exact rfl; intro hcond; rotate_left; intro hcond; rotate_left))
      all_goals first
        | (exfalso; omega)
        | (apply o0; apply za8 Try.results45; exact rV_; intro w' hw; exact ⟨rfl, hw.below (by simp)⟩)
  rw [List.take_of_length_le (by omega)] at hin
  by_cases h0 : 0 < caps.length
  · by_cases h65 : caps.length < 65
    · rw [zh7 ⟨⟨by omega, by omega⟩, hin⟩]
      repeat' (first | (apply v9; exact rfl; exact dF_) | (apply n9; exact rfl; exact dT_; exact rfl; exact rfl) | (apply j0; exact rfl; exact dT_) | ((first | apply w9 | apply y8); exact rfl; exact rfl) | ((first | apply p4 | apply n0); exact rfl; exact rfl; exact rfl) | (apply n8; infer_instance; exact rfl; exact rfl) | ((first | apply s9 | apply x8 | apply z8 | apply s7 | apply s8 | apply w4 | apply z9 | apply w5)) | ((first | apply w6 | apply z6 | apply z0 | apply p7 | apply y0 | apply z7)))
      apply o0; apply za8 Try.results45; exact rV_; intro w' hw
      exact ⟨by rw [decide_eq_true (by omega : (caps.length : Int) < 65)], hw.below (by simp)⟩
    · rw [zb4 (fun h => by have := h.1.2; omega)]
      repeat' (first | (apply v9; exact rfl; exact dF_) | (apply n9; exact rfl; exact dT_; exact rfl; exact rfl) | (apply j0; exact rfl; exact dT_) | ((first | apply w9 | apply y8); exact rfl; exact rfl) | ((first | apply p4 | apply n0); exact rfl; exact rfl; exact rfl) | (apply n8; infer_instance; exact rfl; exact rfl) | ((first | apply s9 | apply x8 | apply z8 | apply s7 | apply s8 | apply w4 | apply z9 | apply w5)) | ((first | apply w6 | apply z6 | apply z0 | apply p7 | apply y0 | apply z7)))
      apply o0; apply za8 Try.results45; exact rV_; intro w' hw
      exact ⟨by rw [decide_eq_false (by omega : ¬ (caps.length : Int) < 65)], hw.below (by simp)⟩
  · rw [zb4 (fun h => by have := h.1.1; omega)]
    repeat' (first | (apply v9; exact rfl; exact dF_) | (apply p9; exact rfl; exact dF_; exact rfl; exact rfl) | (apply za2; exact rfl; exact dF_; exact rfl) | ((first | apply w9 | apply y8); exact rfl; exact rfl) | ((first | apply p4 | apply n0); exact rfl; exact rfl; exact rfl) | (apply n8; infer_instance; exact rfl; exact rfl) | ((first | apply s9 | apply x8 | apply z8 | apply s7 | apply s8 | apply w4 | apply z9 | apply w5)) | ((first | apply w6 | apply z6 | apply z0 | apply p7 | apply y0 | apply z7)))
    apply o0; apply za8 Try.results45; exact rV_; intro w' hw
    exact ⟨rfl, hw.below (by simp)⟩
set_option maxHeartbeats 4000000 in
theorem yl9 {cv fv : Value} {caps : List Int} {l : List Srt.Fd} (w : World) (h : SV w 1 encI cv caps) (hl : SV w 2 zo2 fv l) : Calls Try.prog 46 #[cv, fv] w fun e w' => e = .returned (.int .i64 (Srt.zp2 caps.length l)) ∧ Below w.heap.size w w' := by
  obtain ⟨a0, c0, rfl, hc0, -⟩ := h.open
  obtain ⟨a1, c1, rfl, hc1, hop⟩ := hl.open
  by_cases hb : 2000 < l.length
  · rw [show Srt.zp2 caps.length l = 5 by unfold Srt.zp2; rw [if_pos hb]]
    refine za6 Try.func46 rfl Try.ntmps46 rfl (Rep.start w) ?_
    repeat' (first | (apply v8; exact rfl; exact dT_) | ((first | apply w9 | apply y8 | apply x9); exact rfl; exact rfl) | ((first | apply p4 | apply n0 | apply d9 | apply m9); exact rfl; exact rfl; exact rfl) | (apply n8; infer_instance; exact rfl; exact rfl) | ((first | apply s9 | apply x8 | apply z8 | apply s7 | apply s8 | apply w4 | apply z9 | apply w5)) | ((first | apply w6 | apply z6 | apply z0 | apply p7 | apply y0 | apply z7)))
    apply o0; apply za8 Try.results46; exact rV_; intro w' hw
    exact ⟨rfl, hw.below (by simp)⟩
  have e0 : Srt.zp2 caps.length l = if Srt.zB1 caps.length [] l = true then 291 else 0 := by unfold Srt.zp2; rw [if_neg hb]
  rw [e0]
  refine za6 Try.func46 rfl Try.ntmps46 rfl (Rep.start w) ?_
  repeat' (first | (apply v9; exact rfl; exact dF_) | ((first | apply w9 | apply y8 | apply x9); exact rfl; exact rfl) | ((first | apply p4 | apply n0 | apply d9 | apply m9); exact rfl; exact rfl; exact rfl) | (apply n8; infer_instance; exact rfl; exact rfl) | ((first | apply s9 | apply x8 | apply z8 | apply s7 | apply s8 | apply w4 | apply z9 | apply w5)) | ((first | apply w6 | apply z6 | apply z0 | apply p7 | apply y0 | apply z7)))
  apply i9 (σ := Nat) (Fs := fun i => [(5, .int .i64 i), (0, .slice a0 caps.length c0), (1, .slice a1 l.length c1)]) (Ls := fun i => []) (I := fun i => i ≤ l.length ∧ Srt.zB1 caps.length [] l = Srt.zB1 caps.length ((l.take i).map Srt.Fd.item) (l.drop i)) (μ := fun i => l.length - i) (s0 := 0)
  · exact ⟨Nat.zero_le _, by simp⟩
  · exact fS_
  · exact hS_
  rintro i ⟨hi, hbad⟩
  by_cases hlt : i < l.length
  · obtain ⟨⟨it, st⟩, hx⟩ : ∃ s, l[i]? = some s := ⟨_, List.getElem?_eq_getElem hlt⟩
    obtain ⟨b, off, cc, e, fz, rfl, hk, hp⟩ := hop (by omega)
    have h1 : ∀ j u, ([.int .i64 it, .int .i64 st] : List Value)[j]? = some u → cc[off + i * 2 + j]? = some u := hp.get hx
    have e3 : (l.take (i + 1)).map Srt.Fd.item = (l.take i).map Srt.Fd.item ++ [it] := by rw [take_snoc hx]; simp
    rw [drop_at hx, Srt.zB1] at hbad
    by_cases hok : Srt.Fd.ok caps.length ⟨it, st⟩
    · have hok' := hok
      unfold Srt.Fd.ok at hok'
      dsimp only at hok'
      repeat' (first | (apply v8; exact rfl; exact dT_) | (apply v9; exact rfl; exact dF_) | (apply p9; exact rfl; exact dF_; exact rfl; exact rfl) | (apply j0; exact rfl; exact dF_) | ((first | apply w9 | apply y8 | apply x9); exact rfl; exact rfl) | (apply w7; first | refine u9 (h := ?_) | refine y9 (h := ?_) | refine w8 (h := ?_) | refine q7 (h := ?_) | refine q6 (h := ?_)) | ((first | apply p4 | apply n0 | apply d9 | apply m9); exact rfl; exact rfl; exact rfl) | (apply o8; exact rfl; intro _) | (apply q8; first | refine q9 (h := ?_) | refine p3 (h := ?_)) | (apply n8; infer_instance; exact rfl; exact rfl) | (apply l0; infer_instance; infer_instance; exact rfl; exact rfl; (first | exact rfl | omega); exact rfl; (first | assumption | omega | decide)) | ((first | apply s9 | apply x8 | apply z8 | apply s7 | apply s8 | apply w4 | apply z9 | apply w5)) | ((first | apply w6 | apply z6 | apply z0 | apply p7 | apply y0 | apply z7)))
      rename_i b6
      apply i9 (σ := Nat) (Fs := fun k => [(7, .int .i64 k), (6, ptr b6), (5, .int .i64 i), (0, .slice a0 caps.length c0), (1, .slice (some ⟨b, off, none⟩) l.length c1)]) (Ls := fun _ => [⟨b6, Ce [.int .i64 it, .int .i64 st] 163, true⟩]) (I := fun k => k ≤ i ∧ ∀ y ∈ (l.take i).map Srt.Fd.item |>.take k, y ≠ it) (μ := fun k => i - k) (s0 := 0)
      · exact ⟨Nat.zero_le _, by simp⟩
      · exact fS_
      · exact hS_
      rintro k ⟨hki, hkn⟩
      by_cases hkl : k < i
      · obtain ⟨⟨it', st'⟩, hx'⟩ : ∃ s, l[k]? = some s := ⟨_, List.getElem?_eq_getElem (by omega)⟩
        have h2 : ∀ j u, ([.int .i64 it', .int .i64 st'] : List Value)[j]? = some u → cc[off + k * 2 + j]? = some u := hp.get hx'
        have hmk : ((l.take i).map Srt.Fd.item)[k]? = some it' := by rw [List.getElem?_map, List.getElem?_take_of_lt hkl, hx']; rfl
        by_cases he : it' = it
        · have hm : it ∈ (l.take i).map Srt.Fd.item := by rw [← he]; exact List.mem_of_getElem? hmk
          rw [if_neg (fun h => h.2 hm)] at hbad
          rw [hbad, if_pos rfl]
          as_aux_lemma =>
            repeat' (first | (apply v8; exact rfl; exact dT_) | ((first | apply w9 | apply y8 | apply x9); exact rfl; exact rfl) | ((first | apply p4 | apply n0 | apply d9 | apply m9); exact rfl; exact rfl; exact rfl) | ((first | apply s9 | apply x8 | apply z8 | apply s7 | apply s8 | apply w4 | apply z9 | apply w5)) | ((first | apply w6 | apply z6 | apply z0 | apply p7 | apply y0 | apply z7)) | ((apply p8 (id := 12) []); kernel_rfl; kernel_rfl) | (apply za7; try simp only [zb1, List.cons_append, List.nil_append]) | ((first | apply g9 | apply m0 | apply m8); exact rfl; exact rfl) | (apply zb9; exact rfl; exact rfl) | (apply m5; first | refine k9 (h := ?_) | refine o7 (h := ?_) | refine m6 (h := ?_) | refine d6 (h := ?_) | refine f4 (h := ?_)) | ((first | apply ze7 | apply zh2 | apply zm2 | apply zi1); exact rfl; exact rfl; exact rfl) | (apply zc4; infer_instance; infer_instance; exact rfl; exact rfl; (first | exact rfl | omega); exact rfl; (first | assumption | omega | decide)))
            apply o0; apply za8 Try.results46; exact rV_; intro w' hw
            exact ⟨rfl, hw.below (by simp)⟩
        · as_aux_lemma =>
            repeat' (first | (apply v8; exact rfl; exact dT_) | (apply v9; exact rfl; exact dF_) | ((first | apply w9 | apply y8 | apply x9); exact rfl; exact rfl) | ((first | apply p4 | apply n0 | apply d9 | apply m9); exact rfl; exact rfl; exact rfl) | (apply j8; exact rfl; exact rfl; exact rfl; (constructor <;> omega)) | ((first | apply s9 | apply x8 | apply z8 | apply s7 | apply s8 | apply w4 | apply z9 | apply w5)) | ((first | apply w6 | apply z6 | apply z0 | apply p7 | apply y0 | apply z7)) | ((apply p8 (id := 12) []); kernel_rfl; kernel_rfl) | (apply za7; try simp only [zb1, List.cons_append, List.nil_append]) | ((first | apply g9 | apply m0 | apply m8); exact rfl; exact rfl) | (apply zb9; exact rfl; exact rfl) | (apply m5; first | refine k9 (h := ?_) | refine o7 (h := ?_) | refine m6 (h := ?_) | refine d6 (h := ?_) | refine f4 (h := ?_)) | ((first | apply ze7 | apply zh2 | apply zm2 | apply zi1); exact rfl; exact rfl; exact rfl) | (apply zc4; infer_instance; infer_instance; exact rfl; exact rfl; (first | exact rfl | omega); exact rfl; (first | assumption | omega | decide)))
            refine o9 (k + 1) ⟨by omega, zg8 hmk hkn he⟩ (by omega) ?_ ?_
            · exact fS_
            · exact hS_
      obtain rfl : k = i := by omega
      rw [List.take_of_length_le (by rw [List.length_map, List.length_take]; omega)] at hkn
      rw [if_pos ⟨hok, fun hm => hkn _ hm rfl⟩] at hbad
      as_aux_lemma =>
        repeat' (first | (apply v9; exact rfl; exact dF_) | ((first | apply w9 | apply y8 | apply x9); exact rfl; exact rfl) | ((first | apply p4 | apply n0 | apply d9 | apply m9); exact rfl; exact rfl; exact rfl) | (apply j8; exact rfl; exact rfl; exact rfl; (constructor <;> omega)) | ((first | apply s9 | apply x8 | apply z8 | apply s7 | apply s8 | apply w4 | apply z9 | apply w5)) | ((first | apply w6 | apply z6 | apply z0 | apply p7 | apply y0 | apply z7)))
        refine o9 (k + 1) ⟨by omega, by rw [e3]; exact hbad⟩ (by omega) ?_ ?_
        · exact fS_
        · exact hS_
    · rw [if_neg (fun h => hok h.1)] at hbad
      rw [hbad, if_pos rfl]
      unfold Srt.Fd.ok at hok
      dsimp only at hok
      as_aux_lemma =>
        repeat' (first | (apply v8; exact rfl; exact dT_) | (apply n9; exact rfl; exact dT_; exact rfl; exact rfl) | (apply p9; exact rfl; exact dF_; exact rfl; exact rfl) | (apply j0; exact rfl; exact dF_) | (apply za2; exact rfl; exact dT_; exact rfl) | ((first | apply w9 | apply y8 | apply x9); exact rfl; exact rfl) | (apply w7; first | refine u9 (h := ?_) | refine y9 (h := ?_) | refine w8 (h := ?_) | refine q7 (h := ?_) | refine q6 (h := ?_)) | ((first | apply p4 | apply n0 | apply d9 | apply m9); exact rfl; exact rfl; exact rfl) | (apply n9; exact rfl; exact tT_; exact rfl; exact rfl) | (apply o8; exact rfl; intro _) | (apply q8; first | refine q9 (h := ?_) | refine p3 (h := ?_)) | (apply n8; infer_instance; exact rfl; exact rfl) | (apply l0; infer_instance; infer_instance; exact rfl; exact rfl; (first | exact rfl | omega); exact rfl; (first | assumption | omega | decide)) | (apply za2; exact rfl; exact gG_; exact rfl) | ((first | apply s9 | apply x8 | apply z8 | apply s7 | apply s8 | apply w4 | apply z9 | apply w5)) | (apply v8; exact rfl; exact tT_) | ((first | apply w6 | apply z6 | apply z0 | apply p7 | apply y0 | apply z7)) | (apply zd0; exact rfl; intro hcond; rotate_left; intro hcond; rotate_left))
        all_goals first
          | (exfalso; omega)
          | (apply o0; apply za8 Try.results46; exact rV_; intro w' hw; exact ⟨rfl, hw.below (by simp)⟩)
  rw [List.drop_of_length_le (by omega), Srt.zB1] at hbad
  rw [hbad, if_neg (by simp)]
  repeat' (first | (apply v9; exact rfl; exact dF_) | ((first | apply w9 | apply y8 | apply x9); exact rfl; exact rfl) | ((first | apply p4 | apply n0 | apply d9 | apply m9); exact rfl; exact rfl; exact rfl) | (apply n8; infer_instance; exact rfl; exact rfl) | ((first | apply s9 | apply x8 | apply z8 | apply s7 | apply s8 | apply w4 | apply z9 | apply w5)) | ((first | apply w6 | apply z6 | apply z0 | apply p7 | apply y0 | apply z7)))
  apply o0; apply za8 Try.results46; exact rV_; intro w' hw
  exact ⟨rfl, hw.below (by simp)⟩
theorem yz3 {l : List Srt.Ev} {m : Nat} {e : Srt.Ev} (h : l[m]? = some e) : (l.take (m + 1)).reverse = e :: (l.take m).reverse := by rw [take_snoc h]; simp
theorem zB6 {v : Value} {l : List Srt.Ev} (k : Int) (w : World) (h : SV w 3 zp4 v l) : Calls Try.prog 68 #[v, .int .i64 k] w fun e w' => e = .returned (.int .i64 (Srt.zt7 l k)) ∧ Below w.heap.size w w' := by
  obtain ⟨a0, c0, rfl, hc0, hop⟩ := h.open
  refine za6 Try.func68 rfl Try.ntmps68 rfl (Rep.start w) ?_
  repeat' (first | ((first | apply w9 | apply y8 | apply x9); exact rfl; exact rfl) | ((first | apply j8 | apply ze3); exact rfl; exact rfl; exact rfl; (constructor <;> omega)) | (apply n8; infer_instance; exact rfl; exact rfl) | ((first | apply s9 | apply x8 | apply z8 | apply s7 | apply s8 | apply w4 | apply z9 | apply w5)) | ((first | apply w6 | apply z6 | apply z0 | apply p7 | apply y0 | apply z7)))
  apply i9 (σ := Nat × Int) (Fs := fun t => [(6, .int .i64 ((t.1 : Int) - 1)), (5, .int .i64 t.2), (0, .slice a0 l.length c0), (1, .int .i64 k)]) (Ls := fun _ => []) (I := fun t => t.1 ≤ l.length ∧ Srt.zt7 l k = t.2 + Srt.zK7 (l.take t.1).reverse k ∧ 0 ≤ t.2 ∧ t.2 ≤ l.length - t.1) (μ := fun t => t.1) (s0 := (l.length, 0))
  · exact ⟨Nat.le_refl _, by simp [Srt.zt7], Int.le_refl _, by dsimp only; omega⟩
  · exact fS_
  · exact hS_
  rintro ⟨n, out⟩ ⟨hn, hh, ho1, ho2⟩
  dsimp only at hn hh ho1 ho2 ⊢
  rcases n with _ | m
  · have e1 : Srt.zt7 l k = out := by rw [hh]; simp [Srt.zK7]
    rw [e1]
    repeat' (first | (apply v9; exact rfl; exact dF_) | ((first | apply w9 | apply y8 | apply x9); exact rfl; exact rfl) | ((first | apply d9 | apply m9); exact rfl; exact rfl; exact rfl) | ((first | apply s9 | apply x8 | apply z8 | apply s7 | apply s8 | apply w4 | apply z9 | apply w5)) | ((first | apply w6 | apply z6 | apply z0 | apply p7 | apply y0 | apply z7)))
    apply o0; apply za8 Try.results68; exact rV_; intro w' hw
    exact ⟨rfl, hw.below (by simp)⟩
  · obtain ⟨⟨kd, it, st⟩, hx⟩ : ∃ s, l[m]? = some s := ⟨_, List.getElem?_eq_getElem (by omega)⟩
    obtain ⟨b, off, cc, e, fz, rfl, hk, hp⟩ := hop (by omega)
    have h1 : ∀ j u, ([.int .u8 kd, .int .i64 it, .int .i64 st] : List Value)[j]? = some u → cc[off + m * 3 + j]? = some u := hp.get hx
    rw [yz3 hx, Srt.zK7] at hh
    dsimp only at hh
    have em : ((m + 1 : Nat) : Int) - 1 = (m : Int) := by omega
    rw [em]
    by_cases h2 : st = k
    · subst h2
      by_cases hk2 : kd = 2
      · rw [if_pos ⟨rfl, hk2⟩, Int.add_zero] at hh
        rw [hh]
        as_aux_lemma =>
          repeat' (first | (apply v8; exact rfl; exact dT_) | (apply n9; exact rfl; exact dT_; exact rfl; exact rfl) | (apply j0; exact rfl; exact dT_) | ((first | apply w9 | apply y8 | apply x9); exact rfl; exact rfl) | (apply za9; exact rfl; exact rfl) | (apply w7; first | refine u9 (h := ?_) | refine y9 (h := ?_) | refine w8 (h := ?_) | refine q7 (h := ?_) | refine q6 (h := ?_)) | ((first | apply d9 | apply m9); exact rfl; exact rfl; exact rfl) | (apply l0; infer_instance; infer_instance; exact rfl; exact rfl; (first | exact rfl | omega); exact rfl; (first | assumption | omega | decide)) | ((first | apply s9 | apply x8 | apply z8 | apply s7 | apply s8 | apply w4 | apply z9 | apply w5)) | ((first | apply w6 | apply z6 | apply z0 | apply p7 | apply y0 | apply z7)) | (apply zz0; exact rfl))
          apply o0; apply za8 Try.results68; exact rV_; intro w' hw
          exact ⟨rfl, hw.below (by simp)⟩
      · rw [if_neg (fun h => hk2 h.2)] at hh
        by_cases hk1 : kd = 1
        · rw [if_pos ⟨rfl, hk1⟩] at hh
          as_aux_lemma =>
            repeat' (first | (apply v8; exact rfl; exact dT_) | (apply v9; exact rfl; exact dF_) | (apply n9; exact rfl; exact dT_; exact rfl; exact rfl) | (apply j0; exact rfl; exact dT_) | ((first | apply w9 | apply y8 | apply x9); exact rfl; exact rfl) | (apply za9; exact rfl; exact rfl) | (apply w7; first | refine u9 (h := ?_) | refine y9 (h := ?_) | refine w8 (h := ?_) | refine q7 (h := ?_) | refine q6 (h := ?_)) | ((first | apply d9 | apply m9); exact rfl; exact rfl; exact rfl) | ((first | apply j8 | apply ze3); exact rfl; exact rfl; exact rfl; (constructor <;> omega)) | (apply l0; infer_instance; infer_instance; exact rfl; exact rfl; (first | exact rfl | omega); exact rfl; (first | assumption | omega | decide)) | ((first | apply s9 | apply x8 | apply z8 | apply s7 | apply s8 | apply w4 | apply z9 | apply w5)) | ((first | apply w6 | apply z6 | apply z0 | apply p7 | apply y0 | apply z7)))
            refine o9 (m, out + 1) ⟨by dsimp only; omega, by dsimp only; omega, by dsimp only; omega, by dsimp only; omega⟩ (by dsimp only; omega) ?_ ?_
            · exact fS_
            · exact hS_
        · rw [if_neg (fun h => hk1 h.2)] at hh
          as_aux_lemma =>
            repeat' (first | (apply v8; exact rfl; exact dT_) | (apply v9; exact rfl; exact dF_) | (apply n9; exact rfl; exact dT_; exact rfl; exact rfl) | (apply j0; exact rfl; exact dT_) | ((first | apply w9 | apply y8 | apply x9); exact rfl; exact rfl) | (apply za9; exact rfl; exact rfl) | (apply w7; first | refine u9 (h := ?_) | refine y9 (h := ?_) | refine w8 (h := ?_) | refine q7 (h := ?_) | refine q6 (h := ?_)) | ((first | apply d9 | apply m9); exact rfl; exact rfl; exact rfl) | ((first | apply j8 | apply ze3); exact rfl; exact rfl; exact rfl; (constructor <;> omega)) | (apply l0; infer_instance; infer_instance; exact rfl; exact rfl; (first | exact rfl | omega); exact rfl; (first | assumption | omega | decide)) | ((first | apply s9 | apply x8 | apply z8 | apply s7 | apply s8 | apply w4 | apply z9 | apply w5)) | ((first | apply w6 | apply z6 | apply z0 | apply p7 | apply y0 | apply z7)))
            refine o9 (m, out) ⟨by dsimp only; omega, by dsimp only; omega, by dsimp only; omega, by dsimp only; omega⟩ (by dsimp only; omega) ?_ ?_
            · exact fS_
            · exact hS_
    · rw [if_neg (fun h => h2 h.1), if_neg (fun h => h2 h.1)] at hh
      as_aux_lemma =>
        repeat' (first | (apply v8; exact rfl; exact dT_) | (apply p9; exact rfl; exact dF_; exact rfl; exact rfl) | (apply za2; exact rfl; exact dF_; exact rfl) | ((first | apply w9 | apply y8 | apply x9); exact rfl; exact rfl) | (apply za9; exact rfl; exact rfl) | (apply w7; first | refine u9 (h := ?_) | refine y9 (h := ?_) | refine w8 (h := ?_) | refine q7 (h := ?_) | refine q6 (h := ?_)) | ((first | apply d9 | apply m9); exact rfl; exact rfl; exact rfl) | ((first | apply j8 | apply ze3); exact rfl; exact rfl; exact rfl; (constructor <;> omega)) | (apply l0; infer_instance; infer_instance; exact rfl; exact rfl; (first | exact rfl | omega); exact rfl; (first | assumption | omega | decide)) | ((first | apply s9 | apply x8 | apply z8 | apply s7 | apply s8 | apply w4 | apply z9 | apply w5)) | (apply v9; exact rfl; exact fF_) | ((first | apply w6 | apply z6 | apply z0 | apply p7 | apply y0 | apply z7)))
        refine o9 (m, out) ⟨by dsimp only; omega, by dsimp only; omega, by dsimp only; omega, by dsimp only; omega⟩ (by dsimp only; omega) ?_ ?_
        · exact fS_
        · exact hS_
end Go.Proofs.Ytdahckhlfldkkaa
