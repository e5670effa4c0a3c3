/- A part of the proofs of this seat: a small logic of walks, plain laws, and what some of the program's functions compute, shown by walks through their code. Conditions: the hypotheses that each theorem names. -/
import Derived.Test.YtdahckhlfldkkaaZPSmall3
import Derived.Test.YtdahckhlfldkkaaZPSmall14
set_option linter.unusedSimpArgs false
set_option linter.unusedVariables false
set_option linter.unusedSectionVars false
namespace Go.Proofs.Ytdahckhlfldkkaa
open Go Go.Sx Go.RowKit
attribute [local irreducible] WL WC WQ WR WB WF QB St Exit.then Exit.inBlock Exit.noGoto bodyPost roundPost zc1 YR RG BM Calls B zc7 ze3
theorem zZ3 {v : Value} {l : List Int} {x : Int} {b : Bool} (hb : B (x ∈ l) = b) (w : World) (h : SV w 1 encI v l) : Calls Try.prog 25 #[v, .int .i64 x] w fun e w' => e = .returned (.bool b) ∧ Below w.heap.size w w' := by
  subst hb; exact zW1 x w h
set_option maxHeartbeats 4000000 in
theorem zY7 {d : RD} {r : Plt.Run} (rate t : Int) (hsl : r.slices.length ≤ 200) (hsb : ∀ s ∈ r.slices, 0 ≤ s.1 ∧ s.1 ≤ s.2 ∧ s.2 ≤ 1051898399) (hr : 1 ≤ rate ∧ rate ≤ 1000) (ht : 0 ≤ t ∧ t ≤ 1051898399) (w : World) (h : RunV w d r) :
    Calls Try.prog 23 #[zA5 d, .int .i64 rate, .int .i64 t] w fun e w' => e = .returned (.int .i64 (Plt.zm5 t r.slices * rate)) ∧ Below w.heap.size w w' := by
  obtain ⟨dp, ds', df, ⟨x1, n1, k1⟩, ⟨x2, n2, k2⟩, ⟨x3, n3, k3⟩, ⟨x4, n4, k4⟩, ⟨x5, n5, k5⟩, ⟨x6, n6, k6⟩, ⟨x7, n7, k7⟩⟩ := d
  obtain rfl : dp = r.pass := h.pass
  have hs := h.slices
  dsimp only [sdV] at hs
  obtain ⟨_, _, e1, hc, hop⟩ := hs.open
  have hl3 := Plt.zj6 r.pass r.slices
  simp only [Value.slice.injEq] at e1
  obtain ⟨rfl, rfl, rfl⟩ := e1
  rw [hl3] at hc hop ⊢
  unfold zA5
  dsimp only [sdV]
  refine zd8 Try.func23 rfl Try.ntmps23 rfl (Rep.start w) ?_
  repeat' (first | ((first | apply w9 | apply y8 | apply x8); exact rfl; exact rfl) | (apply zc5; exact rfl; exact rfl; exact rfl; intro _) | ((first | apply s9 | apply x9 | apply z8 | apply s7 | apply s8 | apply w4 | apply z9 | apply w5)) | ((first | apply w6 | apply z6 | apply z0 | apply p5 | apply y0 | apply z7)))
  rename_i b3
  apply j9 (σ := Nat) (Fs := fun i => [(8, .int .i64 i), (7, .int .i64 (Plt.zm5 t (r.slices.take i) * rate)), (3, ptr b3), (1, .int .i64 rate), (2, .int .i64 t)]) (Ls := fun _ => ⟨b3, Ce [.int .i64 r.pass, .int .i64 ds', .int .i64 df, .slice x1 n1 k1, .slice x2 r.slices.length k2, .slice x3 n3 k3, .slice x4 n4 k4, .slice x5 n5 k5, .slice x6 n6 k6, .slice x7 n7 k7] 106, true⟩ :: [])
    (I := fun i => i ≤ r.slices.length ∧ 0 ≤ Plt.zm5 t (r.slices.take i) * rate ∧ Plt.zm5 t (r.slices.take i) * rate ≤ i * 1051898399000) (μ := fun i => r.slices.length - i) (s0 := 0)
  · exact ⟨Nat.zero_le _, by simp [Plt.zm5], by simp [Plt.zm5]⟩
  · (try dsimp only); rw [show Plt.zm5 t (r.slices.take 0) * rate = 0 by simp [Plt.zm5]]; exact fS_
  · exact hS_
  rintro i ⟨hi, hb0, hb1⟩
  by_cases hlt : i < r.slices.length
  · obtain ⟨⟨sf, su⟩, hx⟩ : ∃ s, r.slices[i]? = some s := ⟨_, List.getElem?_eq_getElem hlt⟩
    have hx3 : (Plt.zd6 r.pass r.slices)[i]? = some (r.pass, sf, su) := by unfold Plt.zd6; rw [List.getElem?_map, hx]; rfl
    obtain ⟨b, off, cc, e, fz, rfl, hk, hp⟩ := hop (by omega)
    have g1 : ∀ j u, ([.int .i64 r.pass, .int .i64 sf, .int .i64 su] : List Value)[j]? = some u → cc[off + i * 3 + j]? = some u := hp.get hx3
    have hsx := hsb _ (List.mem_of_getElem? hx)
    dsimp only at hsx
    have e1 := Plt.zV1 t (sf, su) (r.slices.take i)
    rw [← take_snoc hx] at e1
    dsimp only at e1
    generalize Plt.zm5 t (r.slices.take i) = bf at hb0 hb1 e1 ⊢
    have fin : ∀ dd : Int, 0 ≤ dd → dd ≤ 1051898399 → max 0 (min su t - sf) = dd → ∃ pr, dd * rate = pr ∧ (0 ≤ pr ∧ pr ≤ 1051898399000) ∧ Plt.zm5 t (r.slices.take (i + 1)) * rate = bf * rate + pr := fun dd h0 h1 h2 => by
      refine ⟨_, rfl, ⟨Int.mul_nonneg h0 (by omega), ?_⟩, ?_⟩
      · have := Int.mul_le_mul h1 hr.2 (by omega) (by omega)
        omega
      · rw [e1, h2, Int.add_mul]
    by_cases h1 : t < su
    · by_cases h2 : sf < t
      · obtain ⟨pr, hpr, hprb, e2⟩ := fin (t - sf) (by omega) (by omega) (by omega)
        as_aux_lemma =>
          repeat' (first | (apply v8; exact rfl; exact dT_) | ((apply yk2 (v := pr)); exact rfl; exact rfl; exact hpr; omega; exact rfl) | ((first | apply w9 | apply y8 | apply x8); exact rfl; exact rfl) | (apply za7; exact rfl; exact rfl) | (apply w7; first | refine u9 (h := ?_) | refine y9 (h := ?_) | refine w8 (h := ?_) | refine q6 (h := ?_) | refine q0 (h := ?_)) | ((first | apply p3 | apply o8); exact rfl; exact rfl; exact rfl) | ((first | apply j0 | apply ze5 | apply zt7); exact rfl; exact rfl; exact rfl; (constructor <;> omega)) | (apply o9; infer_instance; exact rfl; exact rfl) | (apply m8; infer_instance; infer_instance; exact rfl; exact rfl; (first | exact rfl | omega); exact rfl; (first | assumption | omega | decide)) | ((first | apply s9 | apply x9 | apply z8 | apply s7 | apply s8 | apply w4 | apply z9 | apply w5)) | ((first | apply w6 | apply z6 | apply z0 | apply p5 | apply y0 | apply z7)))
          refine o0 (i + 1) ⟨by omega, by rw [e2]; omega, by rw [e2]; omega⟩ (by omega) ?_ ?_
          · (try dsimp only); rw [e2]; exact fS_
          · exact hS_
      · obtain ⟨pr, hpr, hprb, e2⟩ := fin 0 (by omega) (by omega) (by omega)
        rw [Int.zero_mul] at hpr
        subst hpr
        rw [Int.add_zero] at e2
        as_aux_lemma =>
          repeat' (first | (apply v8; exact rfl; exact dT_) | (apply v9; exact rfl; exact dF_) | ((first | apply w9 | apply y8 | apply x8); exact rfl; exact rfl) | (apply za7; exact rfl; exact rfl) | (apply w7; first | refine u9 (h := ?_) | refine y9 (h := ?_) | refine w8 (h := ?_) | refine q6 (h := ?_) | refine q0 (h := ?_)) | ((first | apply p3 | apply o8); exact rfl; exact rfl; exact rfl) | ((first | apply j0 | apply ze5 | apply zt7); exact rfl; exact rfl; exact rfl; (constructor <;> omega)) | (apply o9; infer_instance; exact rfl; exact rfl) | (apply m8; infer_instance; infer_instance; exact rfl; exact rfl; (first | exact rfl | omega); exact rfl; (first | assumption | omega | decide)) | ((first | apply s9 | apply x9 | apply z8 | apply s7 | apply s8 | apply w4 | apply z9 | apply w5)) | ((first | apply w6 | apply z6 | apply z0 | apply p5 | apply y0 | apply z7)))
          refine o0 (i + 1) ⟨by omega, by rw [e2]; omega, by rw [e2]; omega⟩ (by omega) ?_ ?_
          · (try dsimp only); rw [e2]; exact fS_
          · exact hS_
    · by_cases h2 : sf < su
      · obtain ⟨pr, hpr, hprb, e2⟩ := fin (su - sf) (by omega) (by omega) (by omega)
        as_aux_lemma =>
          repeat' (first | (apply v8; exact rfl; exact dT_) | (apply v9; exact rfl; exact dF_) | ((apply yk2 (v := pr)); exact rfl; exact rfl; exact hpr; omega; exact rfl) | ((first | apply w9 | apply y8 | apply x8); exact rfl; exact rfl) | (apply za7; exact rfl; exact rfl) | (apply w7; first | refine u9 (h := ?_) | refine y9 (h := ?_) | refine w8 (h := ?_) | refine q6 (h := ?_) | refine q0 (h := ?_)) | ((first | apply p3 | apply o8); exact rfl; exact rfl; exact rfl) | ((first | apply j0 | apply ze5 | apply zt7); exact rfl; exact rfl; exact rfl; (constructor <;> omega)) | (apply o9; infer_instance; exact rfl; exact rfl) | (apply m8; infer_instance; infer_instance; exact rfl; exact rfl; (first | exact rfl | omega); exact rfl; (first | assumption | omega | decide)) | ((first | apply s9 | apply x9 | apply z8 | apply s7 | apply s8 | apply w4 | apply z9 | apply w5)) | ((first | apply w6 | apply z6 | apply z0 | apply p5 | apply y0 | apply z7)))
          refine o0 (i + 1) ⟨by omega, by rw [e2]; omega, by rw [e2]; omega⟩ (by omega) ?_ ?_
          · (try dsimp only); rw [e2]; exact fS_
          · exact hS_
      · obtain ⟨pr, hpr, hprb, e2⟩ := fin 0 (by omega) (by omega) (by omega)
        rw [Int.zero_mul] at hpr
        subst hpr
        rw [Int.add_zero] at e2
        as_aux_lemma =>
          repeat' (first | (apply v8; exact rfl; exact dT_) | (apply v9; exact rfl; exact dF_) | ((first | apply w9 | apply y8 | apply x8); exact rfl; exact rfl) | (apply za7; exact rfl; exact rfl) | (apply w7; first | refine u9 (h := ?_) | refine y9 (h := ?_) | refine w8 (h := ?_) | refine q6 (h := ?_) | refine q0 (h := ?_)) | ((first | apply p3 | apply o8); exact rfl; exact rfl; exact rfl) | ((first | apply j0 | apply ze5 | apply zt7); exact rfl; exact rfl; exact rfl; (constructor <;> omega)) | (apply o9; infer_instance; exact rfl; exact rfl) | (apply m8; infer_instance; infer_instance; exact rfl; exact rfl; (first | exact rfl | omega); exact rfl; (first | assumption | omega | decide)) | ((first | apply s9 | apply x9 | apply z8 | apply s7 | apply s8 | apply w4 | apply z9 | apply w5)) | ((first | apply w6 | apply z6 | apply z0 | apply p5 | apply y0 | apply z7)))
          refine o0 (i + 1) ⟨by omega, by rw [e2]; omega, by rw [e2]; omega⟩ (by omega) ?_ ?_
          · (try dsimp only); rw [e2]; exact fS_
          · exact hS_
  rw [List.take_of_length_le (by omega)]
  repeat' (first | (apply v9; exact rfl; exact dF_) | ((first | apply w9 | apply y8 | apply x8); exact rfl; exact rfl) | (apply w7; first | refine u9 (h := ?_) | refine y9 (h := ?_) | refine w8 (h := ?_) | refine q6 (h := ?_) | refine q0 (h := ?_)) | ((first | apply p3 | apply o8); exact rfl; exact rfl; exact rfl) | (apply o9; infer_instance; exact rfl; exact rfl) | ((first | apply s9 | apply x9 | apply z8 | apply s7 | apply s8 | apply w4 | apply z9 | apply w5)) | ((first | apply w6 | apply z6 | apply z0 | apply p5 | apply y0 | apply z7)))
  apply p8; apply zb0 Try.results23; exact rV_; intro w' hw
  exact ⟨rfl, hw.below (show AO _ from by exact aO_)⟩
theorem yp5 {d : RD} {r : Plt.Run} {rate t v : Int} (hv : Plt.zm5 t r.slices * rate = v) (hsl : r.slices.length ≤ 200) (hsb : ∀ s ∈ r.slices, 0 ≤ s.1 ∧ s.1 ≤ s.2 ∧ s.2 ≤ 1051898399) (hr : 1 ≤ rate ∧ rate ≤ 1000) (ht : 0 ≤ t ∧ t ≤ 1051898399) (w : World) (h : RunV w d r) :
    Calls Try.prog 23 #[zA5 d, .int .i64 rate, .int .i64 t] w fun e w' => e = .returned (.int .i64 v) ∧ Below w.heap.size w w' := by
  subst hv; exact zY7 rate t hsl hsb hr ht w h
theorem yl0 {p : Plt.g8} (hc : Plt.Calm p) {i : Nat} {y : Plt.za3} {r : Plt.Run} (hy : p.passes[i]? = some y) (hr : (Plt.za2 p)[i]? = some r) : r.slices.length ≤ 200 ∧ ∀ s ∈ r.slices, 0 ≤ s.1 ∧ s.1 ≤ s.2 ∧ s.2 ≤ 1051898399 := by
  have h := Plt.zM6 (stops := Plt.zc0 p.items) (hc.job i y hy)
  have hg := Plt.zD8 hy
  rw [hr] at hg
  rw [← Option.some.inj hg] at h
  exact h
theorem yC5 {x : Int} {l : List Int} : (∃ k, Plt.zn4 x l = some k ∧ Plt.zj4 x l = (k : Int)) ∨ (Plt.zn4 x l = none ∧ Plt.zj4 x l = -1) := by
  unfold Plt.zj4
  cases h : Plt.zn4 x l with
  | none => exact .inr ⟨rfl, rfl⟩
  | some k => exact .inl ⟨k, rfl, rfl⟩
theorem yl1 {q : PlD} {p : Plt.g8} {a : Nat} {k x t : Int} (hvf : Plt.zc6 p = (a, k)) (hk : k ≠ 0) (w : World) (h : PlV w q p) : Calls Try.prog 8 #[plV q, .int .i64 x, .int .i64 t] w fun e w' => e = .returned (.tuple #[.int .i64 0, .int .i64 0, .int .i64 0, .int .i64 k]) ∧ Below w.heap.size w w' := by
  have hV := h
  obtain ⟨⟨a1, n1, c1⟩, ⟨a2, n2, c2⟩, ⟨a3, n3, c3⟩, ds, ys⟩ := q
  dsimp only [sdV, plV] at h ⊢
  refine zd8 Try.func8 rfl Try.ntmps8 rfl (Rep.start w) ?_
  repeat' (first | (apply v8; exact rfl; exact dT_) | ((first | ((apply t8 (f := 15)); exact rfl) | ((apply t9 (f := 15)); exact rfl; kernel_rfl; exact rfl; exact sJ_)); exact eV_; exact (fun w hw => zX3 hvf hk w (hV.keep hw (by exact aO_)))) | ((first | apply w9 | apply y8 | apply x8 | apply p4); exact rfl; exact rfl) | (apply w7; first | refine u9 (h := ?_) | refine y9 (h := ?_) | refine w8 (h := ?_) | refine q6 (h := ?_) | refine q0 (h := ?_)) | ((first | apply p3 | apply o8 | apply l8 | apply p0); exact rfl; exact rfl; exact rfl) | (apply zc5; exact rfl; exact rfl; exact rfl; intro _) | ((first | apply s9 | apply x9 | apply z8 | apply s7 | apply s8 | apply w4 | apply z9 | apply w5)) | ((first | apply w6 | apply z6 | apply z0 | apply p5 | apply y0 | apply z7)))
  apply p8; apply yy5 Try.results8; exact rV_; exact rV_; exact rV_; exact rV_; intro w' hw
  exact ⟨rfl, hw.below (show AO _ from by exact aO_)⟩
set_option maxHeartbeats 32000000 in
set_option maxRecDepth 100000 in
theorem ya9 {q : PlD} {p : Plt.g8} {x t kd ps nu k : Int} (hv : Plt.Valid p) (hvf : Plt.zc6 p = (0, 0)) (he : Plt.zk6 p x t = ((kd, ps, nu), k)) (w : World) (h : PlV w q p) : Calls Try.prog 8 #[plV q, .int .i64 x, .int .i64 t] w fun e w' => e = .returned (.tuple #[.int .i64 kd, .int .i64 ps, .int .i64 nu, .int .i64 k]) ∧ Below w.heap.size w w' := by
  have hV := h
  obtain ⟨⟨a1, n1, c1⟩, ⟨a2, n2, c2⟩, ⟨a3, n3, c3⟩, ds, ys⟩ := q
  obtain ⟨hM, hI, hP, lm, lp, hmach, hpass⟩ := h
  dsimp only [sdV, plV] at hM hI hP lm lp hmach hpass ⊢
  obtain ⟨_, _, e1, hc1, hop1⟩ := hM.open
  cases e1
  obtain ⟨_, _, e2, hc2, hop2⟩ := hI.open
  cases e2
  obtain ⟨_, _, e3, hc3, hop3⟩ := hP.open
  cases e3
  rw [lm] at hc1 hop1 hM hV ⊢
  rw [lp] at hc3 hop3 hP hV ⊢
  have hsmall := hv.small
  have hpl := Plt.zh6 p
  have hcalm := Plt.zD3 hvf
  obtain ⟨zi, hzi⟩ : ∃ z, Plt.zj4 x (p.items.map Plt.Item.id) = z := ⟨_, rfl⟩
  rcases yC5 (x := x) (l := p.items.map Plt.Item.id) with ⟨ki, hki, hkv⟩ | ⟨hki, hkv⟩
  case inr =>
    rw [hzi] at hkv
    subst hkv
    unfold Plt.zk6 at he
    rw [hki] at he
    cases he
    as_aux_lemma =>
      refine zd8 Try.func8 rfl Try.ntmps8 rfl (Rep.start w) ?_
      repeat' (first | (apply v8; exact rfl; exact dT_) | (apply v9; exact rfl; exact dF_) | ((first | ((apply f5 (f := 15)); exact rfl) | ((apply d6 (f := 15)); exact rfl; exact rfl; exact sJ_)); exact eV_; exact (fun w hw => zr3 hv hvf w (hV.keep hw (by exact aO_))); rintro v NP ⟨ar, cr, rds, rfl, ⟨hR, hRl⟩, oP⟩ <;> (try simp only [List.cons_append, List.nil_append, List.append_assoc])) | ((first | ((apply t8 (f := 22)); exact rfl) | ((apply t9 (f := 22)); exact rfl; kernel_rfl; exact rfl; exact sJ_)); exact eV_; exact (fun w hw => zr2 hzi w (hV.keep hw (by exact aO_)))) | ((first | apply w9 | apply y8 | apply x8 | apply p4); exact rfl; exact rfl) | (apply w7; first | refine u9 (h := ?_) | refine y9 (h := ?_) | refine w8 (h := ?_) | refine q6 (h := ?_) | refine q0 (h := ?_)) | ((first | apply p3 | apply o8 | apply l8 | apply p0); exact rfl; exact rfl; exact rfl) | (apply zc5; exact rfl; exact rfl; exact rfl; intro _) | ((first | apply s9 | apply x9 | apply z8 | apply s7 | apply s8 | apply w4 | apply z9 | apply w5)) | ((first | apply w6 | apply z6 | apply z0 | apply p5 | apply y0 | apply z7)))
      apply p8; apply yy5 Try.results8; exact rV_; exact rV_; exact rV_; exact rV_; intro w' hw
      exact ⟨rfl, hw.below (show AO _ from by exact aO_)⟩
  rw [hzi] at hkv
  subst hkv
  obtain ⟨⟨ti, ts, tb⟩, hit⟩ : ∃ z, p.items[ki]? = some z := ⟨_, List.getElem?_eq_getElem (by have := (List.getElem?_eq_some_iff.1 (Plt.zp3 hki).1).1; simpa using this)⟩
  have hkil := (List.getElem?_eq_some_iff.1 hit).1
  by_cases ht0 : t < 0
  · unfold Plt.zk6 at he
    rw [hki] at he
    dsimp only at he
    rw [if_pos ht0] at he
    cases he
    as_aux_lemma =>
      refine zd8 Try.func8 rfl Try.ntmps8 rfl (Rep.start w) ?_
      repeat' (first | (apply v8; exact rfl; exact dT_) | (apply v9; exact rfl; exact dF_) | ((first | ((apply f5 (f := 15)); exact rfl) | ((apply d6 (f := 15)); exact rfl; exact rfl; exact sJ_)); exact eV_; exact (fun w hw => zr3 hv hvf w (hV.keep hw (by exact aO_))); rintro v NP ⟨ar, cr, rds, rfl, ⟨hR, hRl⟩, oP⟩ <;> (try simp only [List.cons_append, List.nil_append, List.append_assoc])) | ((first | ((apply t8 (f := 22)); exact rfl) | ((apply t9 (f := 22)); exact rfl; kernel_rfl; exact rfl; exact sJ_)); exact eV_; exact (fun w hw => zr2 hzi w (hV.keep hw (by exact aO_)))) | ((first | apply w9 | apply y8 | apply x8 | apply p4); exact rfl; exact rfl) | (apply w7; first | refine u9 (h := ?_) | refine y9 (h := ?_) | refine w8 (h := ?_) | refine q6 (h := ?_) | refine q0 (h := ?_)) | ((first | apply p3 | apply o8 | apply l8 | apply p0); exact rfl; exact rfl; exact rfl) | (apply zc5; exact rfl; exact rfl; exact rfl; intro _) | ((first | apply s9 | apply x9 | apply z8 | apply s7 | apply s8 | apply w4 | apply z9 | apply w5)) | ((first | apply w6 | apply z6 | apply z0 | apply p5 | apply y0 | apply z7)))
      apply p8; apply yy5 Try.results8; exact rV_; exact rV_; exact rV_; exact rV_; intro w' hw
      exact ⟨rfl, hw.below (show AO _ from by exact aO_)⟩
  by_cases ht1 : 1051898399 < t
  · unfold Plt.zk6 at he
    rw [hki] at he
    dsimp only at he
    rw [if_neg ht0, if_pos ht1] at he
    cases he
    as_aux_lemma =>
      refine zd8 Try.func8 rfl Try.ntmps8 rfl (Rep.start w) ?_
      repeat' (first | (apply v8; exact rfl; exact dT_) | (apply v9; exact rfl; exact dF_) | ((first | ((apply f5 (f := 15)); exact rfl) | ((apply d6 (f := 15)); exact rfl; exact rfl; exact sJ_)); exact eV_; exact (fun w hw => zr3 hv hvf w (hV.keep hw (by exact aO_))); rintro v NP ⟨ar, cr, rds, rfl, ⟨hR, hRl⟩, oP⟩ <;> (try simp only [List.cons_append, List.nil_append, List.append_assoc])) | ((first | ((apply t8 (f := 22)); exact rfl) | ((apply t9 (f := 22)); exact rfl; kernel_rfl; exact rfl; exact sJ_)); exact eV_; exact (fun w hw => zr2 hzi w (hV.keep hw (by exact aO_)))) | ((first | apply w9 | apply y8 | apply x8 | apply p4); exact rfl; exact rfl) | (apply w7; first | refine u9 (h := ?_) | refine y9 (h := ?_) | refine w8 (h := ?_) | refine q6 (h := ?_) | refine q0 (h := ?_)) | ((first | apply p3 | apply o8 | apply l8 | apply p0); exact rfl; exact rfl; exact rfl) | (apply zc5; exact rfl; exact rfl; exact rfl; intro _) | ((first | apply s9 | apply x9 | apply z8 | apply s7 | apply s8 | apply w4 | apply z9 | apply w5)) | ((first | apply w6 | apply z6 | apply z0 | apply p5 | apply y0 | apply z7)))
      apply p8; apply yy5 Try.results8; exact rV_; exact rV_; exact rV_; exact rV_; intro w' hw
      exact ⟨rfl, hw.below (show AO _ from by exact aO_)⟩
  have ht0 : 0 ≤ t := by omega
  have ht1 : t ≤ 1051898399 := by omega
  rw [Plt.yt4 hki hit ⟨ht0, ht1⟩] at he
  dsimp only at he
  obtain ⟨b2, off2, cc2, ee2, fz2, rfl, hk2, hp2⟩ := hop2 (by omega)
  have gi : ∀ j u, ([.int .i64 ti, .int .i64 ts, .int .i64 tb] : List Value)[j]? = some u → cc2[off2 + ki * 3 + j]? = some u := hp2.get hit
  refine zd8 Try.func8 rfl Try.ntmps8 rfl (Rep.start w) ?_
  repeat' (first | (apply v9; exact rfl; exact dF_) | ((first | ((apply f5 (f := 15)); exact rfl) | ((apply d6 (f := 15)); exact rfl; exact rfl; exact sJ_)); exact eV_; exact (fun w hw => zr3 hv hvf w (hV.keep hw (by exact aO_))); rintro v NP ⟨ar, cr, rds, rfl, ⟨hR, hRl⟩, oP⟩ <;> (try simp only [List.cons_append, List.nil_append, List.append_assoc])) | ((first | ((apply t8 (f := 22)); exact rfl) | ((apply t9 (f := 22)); exact rfl; kernel_rfl; exact rfl; exact sJ_)); exact eV_; exact (fun w hw => zr2 hzi w (hV.keep hw (by exact aO_)))) | ((first | apply w9 | apply y8 | apply x8 | apply p4); exact rfl; exact rfl) | (apply w7; first | refine u9 (h := ?_) | refine y9 (h := ?_) | refine w8 (h := ?_) | refine q6 (h := ?_) | refine q0 (h := ?_)) | ((first | apply p3 | apply o8 | apply l8 | apply p0); exact rfl; exact rfl; exact rfl) | (apply zc5; exact rfl; exact rfl; exact rfl; intro _) | ((first | apply s9 | apply x9 | apply z8 | apply s7 | apply s8 | apply w4 | apply z9 | apply w5)) | ((first | apply w6 | apply z6 | apply z0 | apply p5 | apply y0 | apply z7)) | ((apply p6 (id := 11) []); kernel_rfl; kernel_rfl) | (apply za6; try simp only [za9, List.cons_append, List.nil_append]) | ((first | apply i9 | apply n9 | apply m5); exact rfl; exact rfl) | ((first | apply zb4); exact rfl; exact rfl) | (apply m0; first | refine k8 (h := ?_) | refine p7 (h := ?_) | refine m6 (h := ?_) | refine d8 (h := ?_) | refine d7 (h := ?_)) | (apply zc3; infer_instance; infer_instance; exact rfl; exact rfl; (first | exact rfl | omega); exact rfl; (first | assumption | omega | decide)))
  rename_i b3
  refine yl7 fun w1 hw1 => ?_
  have hb3 := hw1.at (b := b3) (o := Ce [.slice a1 p.ms.length c1, .slice (some ⟨b2, off2, none⟩) p.items.length c2, .slice a3 p.passes.length c3] 33) (by exact aT_)
  have hbel1 := hw1.below (show AO _ from by exact aO_)
  have hV1 := hV.keep hw1 (by exact aO_)
  have hR1 := hR _ _ _ _ (by exact rL_) hw1
  clear hV hM hI hP hmach hpass hop1 hop2 hop3 hk2 hp2 gi hR
  have hV := hV1
  obtain ⟨hM, hI, hP, -, -, hmach, hpass⟩ := hV1
  dsimp only [sdV] at hM hI hP hmach hpass
  obtain ⟨_, _, e1, hc1, hop1⟩ := hM.open
  simp only [Value.slice.injEq] at e1
  obtain ⟨rfl, -, rfl⟩ := e1
  obtain ⟨_, _, e3, hc3, hop3⟩ := hP.open
  simp only [Value.slice.injEq] at e3
  obtain ⟨rfl, -, rfl⟩ := e3
  rw [lm] at hop1
  rw [lp] at hop3
  obtain ⟨_, _, e7, hc7, hop7⟩ := hR1.1.open
  simp only [Value.slice.injEq] at e7
  obtain ⟨rfl, -, rfl⟩ := e7
  rw [hRl] at hc7 hop7
  apply j9 (σ := Nat) (Fs := fun n => [(16, .int .i64 n), (13, .int .i64 (Plt.atN p x t tb n).1), (14, .int .i64 (Plt.atN p x t tb n).2.1), (15, .int .i64 (Plt.atN p x t tb n).2.2), (10, .slice ar (Plt.za2 p).length cr), (3, ptr b3), (1, .int .i64 x), (2, .int .i64 t)])
    (Ls := fun _ => []) (I := fun n => n ≤ p.passes.length) (μ := fun n => p.passes.length - n) (s0 := 0)
  · exact Nat.zero_le _
  · exact fS_
  · exact hS_
  intro n hn
  have hn : n ≤ p.passes.length := hn
  by_cases hlt : n < p.passes.length
  · obtain ⟨y, hy⟩ : ∃ y, p.passes[n]? = some y := ⟨_, List.getElem?_eq_getElem hlt⟩
    obtain ⟨r, hr⟩ : ∃ r, (Plt.za2 p)[n]? = some r := ⟨_, List.getElem?_eq_getElem (by omega)⟩
    obtain ⟨dy, hdy⟩ : ∃ z, ys[n]? = some z := ⟨_, List.getElem?_eq_getElem (by omega)⟩
    obtain ⟨s1, o1, s2, o2, s3, o3, rfl⟩ := (hpass n dy y hdy hy).eqs
    obtain ⟨bp, op, ccp, ep, fzp, rfl, hkp, hpp⟩ := hop3 (by omega)
    have gy : ∀ jj u, ([.int .i64 y.id, .int .i64 y.mach, .int .i64 y.rel, .slice s1 y.src.length o1, .slice s2 y.table.length o2, .slice s3 y.unread.length o3] : List Value)[jj]? = some u → ccp[op + n * 6 + jj]? = some u := hpp.get hdy
    obtain ⟨mk, m, hm, hmid, hmr, -, -, hma, hcases⟩ := hv.run hy hr
    have hmi := zQ5 hv.mnd hm hmid
    have hmf : Plt.zr8 p.ms y.mach = m := by
      obtain ⟨k', m', g1, g2, g3, _⟩ := hv.mach hy
      have := zQ5 hv.mnd g1 g2
      rw [hmi] at this
      have e9 : mk = k' := by omega
      subst e9
      rw [hm] at g1
      cases g1
      exact g3
    have hmkl := (List.getElem?_eq_some_iff.1 hm).1
    obtain ⟨dm, hdm⟩ : ∃ d, ds[mk]? = some d := ⟨_, List.getElem?_eq_getElem (by omega)⟩
    obtain ⟨z1, l1, z2, l2, rfl⟩ := (hmach mk dm m hdm hm).eqs
    obtain ⟨bm, om, ccm, em, fzm, rfl, hkm, hpm⟩ := hop1 (by omega)
    have gm : ∀ j u, ([.int .i64 m.id, .int .i64 m.sweeps, .int .i64 m.rate, .slice z1 m.caps.length l1, .slice z2 m.shifts.length l2] : List Value)[j]? = some u → ccm[om + mk * 5 + j]? = some u := hpm.get hdm
    have hsr := Plt.yl4 (x := x) (t := t) hv hy hr hmf hmr hcases
    obtain ⟨hrsl, hrsb⟩ := yl0 hcalm hy hr
    obtain ⟨bv, hbv⟩ : ∃ z, Plt.zm5 t r.slices * m.rate = z := ⟨_, rfl⟩
    have hbv0 : 0 ≤ bv := by rw [← hbv]; exact Int.mul_nonneg (Plt.zN7 t _) (by have := hmr.2.1; omega)
    rw [hbv] at hsr
    obtain ⟨dn, hdn⟩ : ∃ dn : Nat, (min bv (r.items.length : Int)).toNat = dn := ⟨_, rfl⟩
    rw [hdn] at hsr
    have hdnl : dn ≤ r.items.length := by omega
    obtain ⟨bq, oq, ccq, eq_, fzq, rfl, hkq, hpq⟩ := hop7 (by omega)
    obtain ⟨_, _, y1, j1, y2, j2, y3, m3, j3, y4, m4, j4, y5, j5, y6, j6, y7, m7, j7, -, hds, hm3, -⟩ := hR1.at hr
    have gr : ∀ jj u, ([.int .i64 r.pass, .int .i64 r.start, .int .i64 r.fin, .slice y1 r.items.length j1, .slice y2 r.slices.length j2, .slice y3 m3 j3, .slice y4 m4 j4, .slice y5 r.res.over.length j5, .slice y6 r.res.rej.length j6, .slice y7 m7 j7] : List Value)[jj]? = some u → ccq[oq + n * 10 + jj]? = some u := hpq.get hds
    have hRV : RunV w1 (⟨r.pass, r.start, r.fin, (y1, r.items.length, j1), (y2, r.slices.length, j2), (y3, m3, j3), (y4, m4, j4), (y5, r.res.over.length, j5), (y6, r.res.rej.length, j6), (y7, m7, j7)⟩ : RD) r := hR1.2.2 n _ r hds hr
    have hits := hRV.items
    dsimp only [sdV] at hits
    obtain ⟨_, _, e9, hj1, -⟩ := hits.open
    cases e9
    have hsvt : SV w1 1 encI (.slice y1 dn j1) (r.items.take dn) := by
      obtain ⟨_, _, e9, h9⟩ := hits.take (n := dn)
      cases e9
      rw [show (r.items.take dn).length = dn by rw [List.length_take]; omega] at h9
      exact h9
    repeat' (first | (apply v8; exact rfl; exact dT_) | ((first | ((apply t8 (f := 24)); exact rfl) | ((apply t9 (f := 24)); exact rfl; kernel_rfl; exact rfl; exact sJ_)); exact eV_; exact (fun w hw => ze7 hmi w (hV.keep hw (by exact aO_)))) | ((first | ((apply t8 (f := 23)); exact rfl) | ((apply t9 (f := 23)); exact rfl; kernel_rfl; exact rfl; exact sJ_)); exact eV_; exact (fun w hw => yp5 hbv hrsl hrsb hmr.2.1 ⟨ht0, ht1⟩ w (hRV.keep hw (by exact aO_)))) | ((first | apply w9 | apply y8 | apply x8 | apply p4); exact rfl; exact rfl) | (apply w7; first | refine u9 (h := ?_) | refine y9 (h := ?_) | refine w8 (h := ?_) | refine q6 (h := ?_) | refine q0 (h := ?_)) | ((first | apply p3 | apply o8 | apply l8 | apply p0); exact rfl; exact rfl; exact rfl) | (apply o7; exact rfl; intro _) | (apply q7; first | refine q8 (h := ?_) | refine q9 (h := ?_)) | (apply o9; infer_instance; exact rfl; exact rfl) | (apply m8; infer_instance; infer_instance; exact rfl; exact rfl; (first | exact rfl | omega); exact rfl; (first | assumption | omega | decide)) | ((first | apply s9 | apply x9 | apply z8 | apply s7 | apply s8 | apply w4 | apply z9 | apply w5)) | ((first | apply w6 | apply z6 | apply z0 | apply p5 | apply y0 | apply z7)) | ((apply p6 (id := 16) []); kernel_rfl; kernel_rfl) | (apply za6; try simp only [za9, List.cons_append, List.nil_append]) | ((first | apply i9 | apply n9 | apply m5); exact rfl; exact rfl) | ((first | apply zb4); exact rfl; exact rfl) | (apply m0; first | refine k8 (h := ?_) | refine p7 (h := ?_) | refine m6 (h := ?_) | refine d8 (h := ?_) | refine d7 (h := ?_)) | (apply zc3; infer_instance; infer_instance; exact rfl; exact rfl; (first | exact rfl | omega); exact rfl; (first | assumption | omega | decide)))
    rename_i b17
    apply zP0 (σ := Unit) (Ds := fun _ => []) (Fs := fun _ => [(18, .int .i64 dn), (17, ptr b17), (16, .int .i64 n), (13, .int .i64 (Plt.atN p x t tb n).1), (14, .int .i64 (Plt.atN p x t tb n).2.1), (15, .int .i64 (Plt.atN p x t tb n).2.2), (10, .slice (some ⟨bq, oq, none⟩) (Plt.za2 p).length cr), (3, ptr b3), (1, .int .i64 x), (2, .int .i64 t)]) (Ls := fun _ => ⟨b17, Ce [.int .i64 r.pass, .int .i64 r.start, .int .i64 r.fin, .slice y1 r.items.length j1, .slice y2 r.slices.length j2, .slice y3 m3 j3, .slice y4 m4 j4, .slice y5 r.res.over.length j5, .slice y6 r.res.rej.length j6, .slice y7 m7 j7] 106, true⟩ :: []) (I := fun _ => True)
    · by_cases hgt : (r.items.length : Int) < bv
      · have e9 : (dn : Int) = r.items.length := by omega
        as_aux_lemma =>
          repeat' (first | (apply v8; exact rfl; exact dT_) | ((first | apply w9 | apply y8 | apply x8 | apply p4); exact rfl; exact rfl) | (apply w7; first | refine u9 (h := ?_) | refine y9 (h := ?_) | refine w8 (h := ?_) | refine q6 (h := ?_) | refine q0 (h := ?_)) | (apply o9; infer_instance; exact rfl; exact rfl) | ((first | apply s9 | apply x9 | apply z8 | apply s7 | apply s8 | apply w4 | apply z9 | apply w5)) | ((first | apply w6 | apply z6 | apply z0 | apply p5 | apply y0 | apply z7)))
          refine zq2 () trivial rfl ?_ ?_
          · rw [e9]; exact fS_
          · exact hS_
      · have e9 : (dn : Int) = bv := by omega
        as_aux_lemma =>
          repeat' (first | (apply v9; exact rfl; exact dF_) | ((first | apply s9 | apply x9 | apply z8 | apply s7 | apply s8 | apply w4 | apply z9 | apply w5)) | ((first | apply w6 | apply z6 | apply z0 | apply p5 | apply y0 | apply z7)))
          refine zq2 () trivial rfl ?_ ?_
          · rw [e9]; exact fS_
          · exact hS_
    rintro ⟨⟩ -
    (try dsimp only)
    by_cases hxs : x ∈ r.items.take dn
    case neg =>
      have hb1 := zc2 hxs
      have eA := Plt.yH9 (b := tb) (fun g => hxs (hsr.1 g))
      as_aux_lemma =>
        repeat' (first | ((apply ye4 (h' := dn)); infer_instance; infer_instance; exact rfl; exact rfl; (exact .inr ⟨_, rfl⟩); omega; exact rfl) | ((first | ((apply t8 (f := 25)); exact rfl) | ((apply t9 (f := 25)); exact rfl; kernel_rfl; exact rfl; exact sJ_)); exact eV_; exact (fun w hw => zZ3 hb1 w (hsvt.keep hw (by exact aO_)))) | ((first | apply w9 | apply y8 | apply x8 | apply p4); exact rfl; exact rfl) | (apply w7; first | refine u9 (h := ?_) | refine y9 (h := ?_) | refine w8 (h := ?_) | refine q6 (h := ?_) | refine q0 (h := ?_)) | (apply zd5; exact rfl; exact rfl) | (apply j0; exact rfl; exact rfl; exact rfl; (constructor <;> omega)) | ((first | apply s9 | apply x9 | apply z8 | apply s7 | apply s8 | apply w4 | apply z9 | apply w5)) | (apply v8; exact rfl; exact tT_) | ((first | apply w6 | apply z6 | apply z0 | apply p5 | apply y0 | apply z7)))
        refine o0 (n + 1) (show n + 1 ≤ p.passes.length by omega) (show p.passes.length - (n + 1) < p.passes.length - n by omega) ?_ ?_
        · (try dsimp only); rw [eA]; exact fS_
        · exact hS_
    have hb1 := zj0 hxs
    have eA := Plt.yA4 (b := tb) (hsr.2 hxs) hr
    have hcnt : r.res.stackers.flatten.count x ≤ 1 := by
      rcases hcases with hc | ⟨ready, hc⟩
      · rw [hc.eq] at hxs
        simp [Plt.missed] at hxs
      · have hcc := Plt.zC7 hc.res x
        have hnd := (Plt.zz9 hc.res).2.2
        rw [Plt.zy9] at hnd
        have := List.nodup_iff_count.1 hnd x
        omega
    have hplc := Plt.yx8 hcnt
    have hpp3 := Plt.yk4 r x
    obtain ⟨ss, hss, hsll⟩ := hRV.stk
    dsimp only [sdV] at hss
    obtain ⟨_, _, e9, hc9, hop9⟩ := hss.open
    simp only [Value.slice.injEq] at e9
    obtain ⟨rfl, rfl, rfl⟩ := e9
    have hssl := hsll.1
    have hov := hRV.ov
    dsimp only [sdV] at hov
    repeat' (first | ((apply ye4 (h' := dn)); infer_instance; infer_instance; exact rfl; exact rfl; (exact .inr ⟨_, rfl⟩); omega; exact rfl) | ((first | ((apply t8 (f := 25)); exact rfl) | ((apply t9 (f := 25)); exact rfl; kernel_rfl; exact rfl; exact sJ_)); exact eV_; exact (fun w hw => zZ3 hb1 w (hsvt.keep hw (by exact aO_)))) | ((first | ((apply t8 (f := 25)); exact rfl) | ((apply t9 (f := 25)); exact rfl; kernel_rfl; exact rfl; exact sJ_)); exact eV_; exact (fun w hw => zW1 x w (hov.keep hw (by exact aO_)))) | ((first | apply w9 | apply y8 | apply x8 | apply p4); exact rfl; exact rfl) | ((first | apply za7); exact rfl; exact rfl) | (apply w7; first | refine u9 (h := ?_) | refine y9 (h := ?_) | refine w8 (h := ?_) | refine q6 (h := ?_) | refine q0 (h := ?_)) | (apply zd5; exact rfl; exact rfl) | ((first | apply s9 | apply x9 | apply z8 | apply s7 | apply s8 | apply w4 | apply z9 | apply w5)) | (apply v9; exact rfl; exact fF_) | ((first | apply w6 | apply z6 | apply z0 | apply p5 | apply y0 | apply z7)) | ((apply p6 (id := 20) []); kernel_rfl; kernel_rfl) | (apply za6; try simp only [za9, List.cons_append, List.nil_append]) | ((first | apply i9 | apply n9 | apply m5); exact rfl; exact rfl) | (apply m0; first | refine k8 (h := ?_) | refine p7 (h := ?_) | refine m6 (h := ?_) | refine d8 (h := ?_) | refine d7 (h := ?_)))
    apply zP0 (σ := Unit) (Ds := fun _ => []) (Fs := fun _ => [(13, .int .i64 (Plt.plF r x 0).1), (15, .int .i64 (Plt.plF r x 0).2), (14, .int .i64 r.pass), (17, ptr b17), (16, .int .i64 n), (10, .slice (some ⟨bq, oq, none⟩) (Plt.za2 p).length cr), (3, ptr b3), (1, .int .i64 x), (2, .int .i64 t)]) (Ls := fun _ => ⟨b17, Ce [.int .i64 r.pass, .int .i64 r.start, .int .i64 r.fin, .slice y1 r.items.length j1, .slice y2 r.slices.length j2, .slice y3 ss.length j3, .slice y4 m4 j4, .slice y5 r.res.over.length j5, .slice y6 r.res.rej.length j6, .slice y7 m7 j7] 106, true⟩ :: []) (I := fun _ => True)
    · by_cases hxo : x ∈ r.res.over
      · have hb2 := zj0 hxo
        have ep : Plt.plF r x 0 = (3, 0) := by rw [Plt.plF, if_pos hxo]
        as_aux_lemma =>
          repeat' (first | ((first | apply w9 | apply y8 | apply x8 | apply p4); exact rfl; exact rfl) | ((first | apply s9 | apply x9 | apply z8 | apply s7 | apply s8 | apply w4 | apply z9 | apply w5)) | (apply v8; exact rfl; exact tT_) | ((first | apply w6 | apply z6 | apply z0 | apply p5 | apply y0 | apply z7)))
          refine zq2 () trivial rfl ?_ ?_
          · rw [ep]; exact fS_
          · exact hS_
      · have hb2 := zc2 hxo
        have ep : Plt.plF r x 0 = (4, 0) := by rw [Plt.plF, if_neg hxo]
        as_aux_lemma =>
          repeat' (first | ((first | apply s9 | apply x9 | apply z8 | apply s7 | apply s8 | apply w4 | apply z9 | apply w5)) | (apply v9; exact rfl; exact fF_) | ((first | apply w6 | apply z6 | apply z0 | apply p5 | apply y0 | apply z7)))
          refine zq2 () trivial rfl ?_ ?_
          · rw [ep]; exact fS_
          · exact hS_
    rintro ⟨⟩ -
    (try dsimp only)
    repeat' (first | ((first | apply w9 | apply y8 | apply x8 | apply p4); exact rfl; exact rfl) | ((first | apply s9 | apply x9 | apply z8 | apply s7 | apply s8 | apply w4 | apply z9 | apply w5)) | ((first | apply w6 | apply z6 | apply z0 | apply p5 | apply y0 | apply z7)))
    apply j9 (σ := Nat) (Fs := fun k => [(19, .int .i64 k), (13, .int .i64 (Plt.plF r x k).1), (15, .int .i64 (Plt.plF r x k).2), (14, .int .i64 r.pass), (17, ptr b17), (16, .int .i64 n), (10, .slice (some ⟨bq, oq, none⟩) (Plt.za2 p).length cr), (3, ptr b3), (1, .int .i64 x), (2, .int .i64 t)]) (Ls := fun _ => ⟨b17, Ce [.int .i64 r.pass, .int .i64 r.start, .int .i64 r.fin, .slice y1 r.items.length j1, .slice y2 r.slices.length j2, .slice y3 ss.length j3, .slice y4 m4 j4, .slice y5 r.res.over.length j5, .slice y6 r.res.rej.length j6, .slice y7 m7 j7] 106, true⟩ :: []) (I := fun k => k ≤ ss.length) (μ := fun k => ss.length - k) (s0 := 0)
    · exact Nat.zero_le _
    · exact fS_
    · exact hS_
    intro k hk
    have hk : k ≤ ss.length := hk
    by_cases hkl : k < ss.length
    · obtain ⟨⟨sa, sn, sc⟩, hsk⟩ : ∃ s, ss[k]? = some s := ⟨_, List.getElem?_eq_getElem hkl⟩
      obtain ⟨xs, hxk⟩ : ∃ s, r.res.stackers[k]? = some s := ⟨_, List.getElem?_eq_getElem (by omega)⟩
      have hsx := hsll.2 k _ xs hsk hxk
      dsimp only [sdV] at hsx
      obtain ⟨bt, ot, cct, et, fzt, rfl, hkt, hpt⟩ := hop9 (by omega)
      have gs : cct[ot + k * 1]? = some (.slice sa sn sc) := hpt.one hsk rfl
      have hgd : r.res.stackers.getD k [] = xs := by rw [List.getD_eq_getElem?_getD, hxk]; rfl
      by_cases hxx : x ∈ xs
      · have hb3' := zj0 hxx
        have ep : Plt.plF r x (k + 1) = (2, (k : Int)) := by rw [Plt.plF, hgd, if_pos hxx]
        as_aux_lemma =>
          repeat' (first | (apply v8; exact rfl; exact dT_) | ((first | ((apply t8 (f := 25)); exact rfl) | ((apply t9 (f := 25)); exact rfl; kernel_rfl; exact rfl; exact sJ_)); exact eV_; exact (fun w hw => zZ3 hb3' w (hsx.keep hw (by exact aO_)))) | ((first | apply w9 | apply y8 | apply x8 | apply p4); exact rfl; exact rfl) | ((first | apply za7); exact rfl; exact rfl) | (apply w7; first | refine u9 (h := ?_) | refine y9 (h := ?_) | refine w8 (h := ?_) | refine q6 (h := ?_) | refine q0 (h := ?_)) | ((first | apply p3 | apply o8 | apply l8 | apply p0); exact rfl; exact rfl; exact rfl) | (apply j0; exact rfl; exact rfl; exact rfl; (constructor <;> omega)) | (apply o9; infer_instance; exact rfl; exact rfl) | (apply m8; infer_instance; infer_instance; exact rfl; exact rfl; (first | exact rfl | omega); exact rfl; (first | assumption | omega | decide)) | ((first | apply s9 | apply x9 | apply z8 | apply s7 | apply s8 | apply w4 | apply z9 | apply w5)) | (apply v8; exact rfl; exact tT_) | ((first | apply w6 | apply z6 | apply z0 | apply p5 | apply y0 | apply z7)))
          refine o0 (k + 1) (show k + 1 ≤ ss.length by omega) (show ss.length - (k + 1) < ss.length - k by omega) ?_ ?_
          · (try dsimp only); rw [ep]; exact fS_
          · exact hS_
      · have hb3' := zc2 hxx
        have ep : Plt.plF r x (k + 1) = Plt.plF r x k := by rw [Plt.plF, hgd, if_neg hxx]
        as_aux_lemma =>
          repeat' (first | (apply v8; exact rfl; exact dT_) | ((first | ((apply t8 (f := 25)); exact rfl) | ((apply t9 (f := 25)); exact rfl; kernel_rfl; exact rfl; exact sJ_)); exact eV_; exact (fun w hw => zZ3 hb3' w (hsx.keep hw (by exact aO_)))) | ((first | apply w9 | apply y8 | apply x8 | apply p4); exact rfl; exact rfl) | ((first | apply za7); exact rfl; exact rfl) | (apply w7; first | refine u9 (h := ?_) | refine y9 (h := ?_) | refine w8 (h := ?_) | refine q6 (h := ?_) | refine q0 (h := ?_)) | ((first | apply p3 | apply o8 | apply l8 | apply p0); exact rfl; exact rfl; exact rfl) | (apply j0; exact rfl; exact rfl; exact rfl; (constructor <;> omega)) | (apply o9; infer_instance; exact rfl; exact rfl) | (apply m8; infer_instance; infer_instance; exact rfl; exact rfl; (first | exact rfl | omega); exact rfl; (first | assumption | omega | decide)) | ((first | apply s9 | apply x9 | apply z8 | apply s7 | apply s8 | apply w4 | apply z9 | apply w5)) | (apply v9; exact rfl; exact fF_) | ((first | apply w6 | apply z6 | apply z0 | apply p5 | apply y0 | apply z7)))
          refine o0 (k + 1) (show k + 1 ≤ ss.length by omega) (show ss.length - (k + 1) < ss.length - k by omega) ?_ ?_
          · (try dsimp only); rw [ep]; exact fS_
          · exact hS_
    obtain rfl : k = ss.length := by omega
    rw [hssl, hplc.1, hplc.2]
    repeat' (first | (apply v9; exact rfl; exact dF_) | ((first | apply w9 | apply y8 | apply x8 | apply p4); exact rfl; exact rfl) | ((first | apply za7); exact rfl; exact rfl) | (apply w7; first | refine u9 (h := ?_) | refine y9 (h := ?_) | refine w8 (h := ?_) | refine q6 (h := ?_) | refine q0 (h := ?_)) | ((first | apply p3 | apply o8 | apply l8 | apply p0); exact rfl; exact rfl; exact rfl) | (apply j0; exact rfl; exact rfl; exact rfl; (constructor <;> omega)) | (apply o9; infer_instance; exact rfl; exact rfl) | ((first | apply s9 | apply x9 | apply z8 | apply s7 | apply s8 | apply w4 | apply z9 | apply w5)) | ((first | apply w6 | apply z6 | apply z0 | apply p5 | apply y0 | apply z7)))
    refine o0 (n + 1) (show n + 1 ≤ p.passes.length by omega) (show p.passes.length - (n + 1) < p.passes.length - n by omega) ?_ ?_
    · (try dsimp only); rw [eA, hpp3]; exact fS_
    · exact hS_
  obtain rfl : n = p.passes.length := by omega
  simp only [Prod.mk.injEq, and_true] at he
  obtain ⟨he, rfl⟩ := he
  rw [he]
  repeat' (first | (apply v9; exact rfl; exact dF_) | ((first | apply w9 | apply y8 | apply x8 | apply p4); exact rfl; exact rfl) | ((first | apply p3 | apply o8 | apply l8 | apply p0); exact rfl; exact rfl; exact rfl) | (apply o9; infer_instance; exact rfl; exact rfl) | ((first | apply s9 | apply x9 | apply z8 | apply s7 | apply s8 | apply w4 | apply z9 | apply w5)) | ((first | apply w6 | apply z6 | apply z0 | apply p5 | apply y0 | apply z7)))
  apply p8; apply yy5 Try.results8; exact rV_; exact rV_; exact rV_; exact rV_; intro w' hw
  exact ⟨rfl, hbel1.trans ((hw.below (show AO _ from by exact aO_)).mono hbel1.size)⟩
end Go.Proofs.Ytdahckhlfldkkaa
namespace Go.Sx.Plt
open Go Go.Sx
structure Lim (p : g8) : Prop where
  ms : p.ms.length ≤ 17592186044416
  items : p.items.length ≤ 17592186044416
  passes : p.passes.length ≤ 17592186044416
  mach : ∀ m ∈ p.ms, m.caps.length ≤ 17592186044416 ∧ m.shifts.length ≤ 17592186044416
  pass : ∀ y ∈ p.passes, y.src.length ≤ 17592186044416 ∧ y.table.length ≤ 17592186044416 ∧ y.unread.length ≤ 17592186044416
structure Few (p : g8) : Prop where
  ms : p.ms.length ≤ 30
  items : p.items.length ≤ 300
  passes : p.passes.length ≤ 70
  mach : ∀ m ∈ p.ms, m.caps.length ≤ 300 ∧ m.shifts.length ≤ 300
  pass : ∀ y ∈ p.passes, y.src.length ≤ 300 ∧ y.table.length ≤ 300 ∧ y.unread.length ≤ 300
def yK9 : List zb6 → Nat
  | [] => 0
  | m :: l => m.caps.length + m.shifts.length + yK9 l
def yL1 : List za3 → Nat
  | [] => 0
  | y :: l => y.src.length + y.table.length + y.unread.length + yL1 l
end Go.Sx.Plt
namespace Go.Proofs.Ytdahckhlfldkkaa
open Go Go.Sx Go.RowKit
attribute [local irreducible] WL WC WQ WR WB WF QB St Exit.then Exit.inBlock Exit.noGoto bodyPost roundPost zc1 YR RG BM Calls B zc7 ze3
section
variable {P : Program} {n : Nat} {D : List Deferred} {w0 : World} {F : List (Nat × Value)} {L : List Ent} {ops : Array Oper} {Q : Exit → Act → World → Prop} {r : Option Nat}
variable {d : Tmp} {ty : TypeId} {pos : String} {af : Array Edge} {rest : List Oper} {x y : Operand} {m l v : Int} {t u : TypeId}
end
end Go.Proofs.Ytdahckhlfldkkaa
namespace Go.Proofs.Ytdahckhlfldkkaa
open Go Go.Sx Go.RowKit
attribute [local irreducible] WL WC WQ WR WB WF QB St Exit.then Exit.inBlock Exit.noGoto bodyPost roundPost zc1 YR RG BM Calls B zc7 ze3
def cpφ (l : List Int) (v : Value) (N : List Ent) : Prop := ∃ a c, v = .slice a l.length c ∧ OW 3 1 encI (.slice a l.length c) l N ∧ ∀ x ∈ N, x.own = true
theorem zG7 {va : Value} {xs : List Int} (w : World) (ha : SV w 1 encI va xs) (hn : xs.length ≤ 1000000000) : Calls Try.prog 21 #[va] w fun e w' => ∃ v N, e = .returned v ∧ cpφ xs v N ∧ Rep w w' N ∧ ∀ x ∈ N, x.own = true :=
  (zP3 w ha hn).mono fun e w' ⟨v, N, h1, h2, h3, h4⟩ => by
    obtain ⟨a, c, rfl, _, _⟩ := h2.open
    exact ⟨_, N, h1, ⟨a, c, rfl, h2, h4⟩, h3, h4⟩
theorem yg4 {α β : Type} {R : World → α → β → Prop} {x : α} {y : β} {N : List Ent} (h : Shw N (fun w => R w x y)) : Shw N (R2 R [x] [y]) := fun w0 w L L0 hr hw i a b ha hb => by
  match i with
  | 0 => cases ha; cases hb; exact h w0 w L L0 hr hw
  | i + 1 => simp at ha
def yI5 (p : Plt.g8) (v : Value) (N : List Ent) : Prop := ∃ q, v = plV q ∧ Shw N (fun w => PlV w q p) ∧ ∀ x ∈ N, x.own = true
set_option maxHeartbeats 16000000 in
set_option maxRecDepth 100000 in
theorem yd5 {q : PlD} {p : Plt.g8} (hf : Plt.Few p) (w : World) (h : PlV w q p) : Calls Try.prog 7 #[plV q] w fun e w' => ∃ v N, e = .returned v ∧ yI5 p v N ∧ Rep w w' N ∧ ∀ x ∈ N, x.own = true := by
  have hV := h
  obtain ⟨⟨a1, n1, c1⟩, ⟨a2, n2, c2⟩, ⟨a3, n3, c3⟩, ds, ys⟩ := q
  obtain ⟨hM, hI, hP, lm, lp, hmach, hpass⟩ := h
  dsimp only [sdV, plV] at hM hI hP lm lp hmach hpass ⊢
  obtain ⟨_, _, e1, hc1, hop1⟩ := hM.open
  cases e1
  obtain ⟨_, _, e2, hc2, hop2⟩ := hI.open
  cases e2
  obtain ⟨_, _, e3, hc3, hop3⟩ := hP.open
  cases e3
  rw [lm] at hc1 hop1 hM hV ⊢
  rw [lp] at hc3 hop3 hP hV ⊢
  have hLm := hf.ms
  have hLi := hf.items
  have hLp := hf.passes
  refine zd2 Try.func7 rfl Try.ntmps7 rfl (Rep.start w) ?_
  repeat' (first | ((first | apply w9 | apply x8); exact rfl; exact rfl) | (apply w7; first | refine u9 (h := ?_) | refine y9 (h := ?_) | refine w8 (h := ?_) | refine q6 (h := ?_) | refine q0 (h := ?_)) | (apply o7; exact rfl; intro _) | (apply zc5; exact rfl; exact rfl; exact rfl; intro _) | (apply o9; infer_instance; exact rfl; exact rfl) | ((first | apply s9 | apply x9 | apply z8 | apply s7 | apply s8 | apply w4 | apply z9 | apply w5)) | ((first | apply w6 | apply z6 | apply z0 | apply p5 | apply y0 | apply z7)))
  rename_i b1 b2 b3
  apply j9 (σ := Nat × List MD × (Option Addr × Nat) × List Ent × List Ent) (Fs := fun t => [(21, .int .i64 t.1), (20, .int .i64 p.ms.length), (19, .slice a1 p.ms.length c1), (3, ptr b3), (2, ptr b2), (1, ptr b1)])
    (Ls := fun t => t.2.2.2.1 ++ (t.2.2.2.2 ++ (⟨b3, Ce [.slice t.2.2.1.1 t.2.1.length t.2.2.1.2, .slice none 0 0, .slice none 0 0] 33, true⟩ :: ⟨b2, Ce [.slice none 0 0, .slice none 0 0, .slice none 0 0] 33, true⟩ :: ⟨b1, Ce [.slice a1 p.ms.length c1, .slice a2 p.items.length c2, .slice a3 p.passes.length c3] 26, true⟩ :: [])))
    (I := fun t => (t.1 ≤ p.ms.length ∧ t.2.1.length = t.1) ∧ (∀ x ∈ t.2.2.2.2, x.own = true) ∧ Shw t.2.2.2.2 (R2 MachV t.2.1 (p.ms.take t.1)) ∧ OW 85 5 zV3 (.slice t.2.2.1.1 t.2.1.length t.2.2.1.2) t.2.1 t.2.2.2.1)
    (μ := fun t => p.ms.length - t.1) (s0 := (0, [], (none, 0), [], []))
  · exact ⟨⟨Nat.zero_le _, rfl⟩, by simp, yg3, OW.nil⟩
  · exact fS_
  · (try dsimp only); simp only [List.nil_append]; exact hS_
  rintro ⟨i, rds, ⟨ar, cr⟩, NR, NX⟩ ⟨⟨hi, hrl⟩, oX, hsh, hO⟩
  dsimp only at hi hrl oX hsh hO ⊢
  have oR := hO.own
  by_cases hlt : i < p.ms.length
  · obtain ⟨m, hm⟩ : ∃ y, p.ms[i]? = some y := ⟨_, List.getElem?_eq_getElem hlt⟩
    obtain ⟨dm, hdm⟩ : ∃ z, ds[i]? = some z := ⟨_, List.getElem?_eq_getElem (by omega)⟩
    have hMV := hmach i dm m hdm hm
    obtain ⟨s1, o1, s2, o2, rfl⟩ := hMV.eqs
    have hcaps := hMV.caps
    have hshf := hMV.shifts
    dsimp only [sdV] at hcaps hshf
    obtain ⟨_, _, e4, hc4, hop4⟩ := hshf.open
    cases e4
    obtain ⟨bp, op, ccp, ep, fzp, rfl, hkp, hpp⟩ := hop1 (by omega)
    have gy : ∀ jj u, ([.int .i64 m.id, .int .i64 m.sweeps, .int .i64 m.rate, .slice s1 m.caps.length o1, .slice s2 m.shifts.length o2] : List Value)[jj]? = some u → ccp[op + i * 5 + jj]? = some u := hpp.get hdm
    obtain ⟨hlc, hls⟩ := hf.mach m (List.mem_of_getElem? hm)
    repeat' (first | (apply v8; exact rfl; exact dT_) | ((apply p6 (id := 5) [(8, cpφ m.caps)]); kernel_rfl; kernel_rfl) | ((first | ((apply f5 (f := 21)); exact rfl) | ((apply d6 (f := 21)); exact rfl; exact rfl; exact sJ_)); exact eV_; exact (fun w hw => zG7 w (hcaps.keep hw (by exact aO_)) (by omega)); rintro v NC ⟨ac, cc, rfl, hOC, oC⟩ <;> (try simp only [List.cons_append, List.nil_append, List.append_assoc])) | ((first | apply w9 | apply x8); exact rfl; exact rfl) | (apply w7; first | refine u9 (h := ?_) | refine y9 (h := ?_) | refine w8 (h := ?_) | refine q6 (h := ?_) | refine q0 (h := ?_)) | (apply p3; exact rfl; exact rfl; exact rfl) | (apply o7; exact rfl; intro _) | (apply q7; first | refine q8 (h := ?_) | refine q9 (h := ?_)) | (apply o9; infer_instance; exact rfl; exact rfl) | (apply m8; infer_instance; infer_instance; exact rfl; exact rfl; (first | exact rfl | omega); exact rfl; (first | assumption | omega | decide)) | ((first | apply s9 | apply x9 | apply z8 | apply s7 | apply s8 | apply w4 | apply z9 | apply w5)) | ((first | apply w6 | apply z6 | apply z0 | apply p5 | apply y0 | apply z7)) | (apply za6; try simp only [za9, List.cons_append, List.nil_append]) | ((first | apply i9 | apply m5); exact rfl; exact rfl) | (apply m0; first | refine k8 (h := ?_) | refine p7 (h := ?_) | refine m6 (h := ?_) | refine d8 (h := ?_) | refine d7 (h := ?_)) | (apply zx1; first | refine zD2 (h := ?_)) | (apply zs3; first | refine zq0 (h := ?_)) | (apply zD9; exact rfl; intro _))
    rename_i b5 b6
    apply j9 (σ := Nat × List Plt.Sh × (Option Addr × Nat) × List Ent) (Fs := fun t => [(38, .int .i64 t.1), (37, .int .i64 m.shifts.length), (36, .slice s2 m.shifts.length o2), (6, ptr b6), (21, .int .i64 i), (20, .int .i64 p.ms.length), (19, .slice (some ⟨bp, op, none⟩) p.ms.length c1), (3, ptr b3), (2, ptr b2), (1, ptr b1)])
      (Ls := fun t => t.2.2.2 ++ (⟨b6, Ce [.int .i64 m.id, .int .i64 m.sweeps, .int .i64 m.rate, .slice ac m.caps.length cc, .slice t.2.2.1.1 t.2.1.length t.2.2.1.2] 85, true⟩ :: (NC ++ (NR ++ (NX ++ (⟨b3, Ce [.slice ar rds.length cr, .slice none 0 0, .slice none 0 0] 33, true⟩ :: ⟨b2, Ce [.slice none 0 0, .slice none 0 0, .slice none 0 0] 33, true⟩ :: ⟨b1, Ce [.slice (some ⟨bp, op, none⟩) p.ms.length c1, .slice a2 p.items.length c2, .slice a3 p.passes.length c3] 26, true⟩ :: []))))))
      (I := fun t => (t.1 ≤ m.shifts.length ∧ t.2.1 = m.shifts.take t.1) ∧ OW 86 2 zs8 (.slice t.2.2.1.1 t.2.1.length t.2.2.1.2) t.2.1 t.2.2.2)
      (μ := fun t => m.shifts.length - t.1) (s0 := (0, [], (none, 0), []))
    · exact ⟨⟨Nat.zero_le _, rfl⟩, OW.nil⟩
    · exact fS_
    · (try dsimp only); simp only [List.nil_append]; exact hS_
    rintro ⟨k, ss, ⟨ax, cx⟩, NS⟩ ⟨⟨hk, hss⟩, hOS⟩
    dsimp only at hk hss hOS ⊢
    have oS := hOS.own
    have hsl : ss.length = k := by rw [hss, List.length_take]; omega
    by_cases hkl : k < m.shifts.length
    · obtain ⟨z, hz⟩ : ∃ y, m.shifts[k]? = some y := ⟨_, List.getElem?_eq_getElem hkl⟩
      obtain ⟨bz, oz, ccz, ez, fzz, rfl, hkz, hpz⟩ := hop4 (by omega)
      have gz : ∀ jj u, ([.int .i64 z.f, .int .i64 z.t] : List Value)[jj]? = some u → ccz[oz + k * 2 + jj]? = some u := hpz.get hz
      have hsn : ss ++ [z] = m.shifts.take (k + 1) := by rw [take_snoc hz, hss]
      have hs300 : ss.length ≤ 300 := by omega
      as_aux_lemma =>
        repeat' (first | (apply v8; exact rfl; exact dT_) | (apply zc4 (enc := zs8) (ys := [z]); infer_instance; infer_instance; infer_instance; exact rfl; exact zw6; exact yq0; exact rfl; exact rfl; exact rfl; assumption; exact rL_; (exact fun w hw => SV.lit [z] zw6 hw (by exact aT_) rfl rfl (by decide)); (first | decide | (constructor <;> (try simp only [List.length_cons, List.length_nil]) <;> omega) | (constructor <;> simp <;> omega)); intro a_ cp_ N_ hO_; have oN_ := hO_.own; (try simp only [List.nil_append, List.append_assoc] at hO_); (try simp only [List.append_eq, List.append_assoc, List.cons_append, List.nil_append])) | ((first | apply w9 | apply x8); exact rfl; exact rfl) | (apply w7; first | refine u9 (h := ?_) | refine y9 (h := ?_) | refine w8 (h := ?_) | refine q6 (h := ?_) | refine q0 (h := ?_)) | (apply p3; exact rfl; exact rfl; exact rfl) | (apply j0; exact rfl; exact rfl; exact rfl; (constructor <;> omega)) | (apply o7; exact rfl; intro _) | (apply q7; first | refine q8 (h := ?_) | refine q9 (h := ?_)) | (apply g7; first | refine a8 (h := ?_)) | (apply m9; refine l9 (h := fun _ => ?_)) | (apply m8; infer_instance; infer_instance; exact rfl; exact rfl; (first | exact rfl | omega); exact rfl; (first | assumption | omega | decide)) | ((first | apply s9 | apply x9 | apply z8 | apply s7 | apply s8 | apply w4 | apply z9 | apply w5)) | ((first | apply w6 | apply z6 | apply z0 | apply p5 | apply y0 | apply z7)))
        refine o0 (k + 1, ss ++ [z], (a_, cp_), N_) ⟨⟨by dsimp only; omega, hsn⟩, hO_⟩ (by dsimp only; omega) ?_ ?_
        · exact fS_
        · (try dsimp only); (try simp only [List.append_assoc, List.cons_append, List.nil_append]); exact hS_
    obtain rfl : k = m.shifts.length := by omega
    rw [List.take_length] at hss
    subst hss
    have hr300 : rds.length ≤ 300 := by omega
    have hMV' : Shw (NS ++ NC) (fun w => MachV w (⟨m.id, m.sweeps, m.rate, (ac, m.caps.length, cc), (ax, m.shifts.length, cx)⟩ : MD) m) := fun w0 w1 L L0 hra hw => ⟨rfl, rfl, rfl, (Shw.right (Shw.ow j8 hOC)) _ _ _ _ hra hw, (Shw.left (Shw.ow zw6 hOS)) _ _ _ _ hra hw⟩
    repeat' (first | (apply v9; exact rfl; exact dF_) | (apply zc4 (enc := zV3) (ys := [(⟨m.id, m.sweeps, m.rate, (ac, m.caps.length, cc), (ax, m.shifts.length, cx)⟩ : MD)]); infer_instance; infer_instance; infer_instance; exact rfl; exact zw4; exact yp8; exact rfl; exact rfl; exact rfl; assumption; exact rL_; (exact fun w hw => SV.lit [(⟨m.id, m.sweeps, m.rate, (ac, m.caps.length, cc), (ax, m.shifts.length, cx)⟩ : MD)] zw4 hw (by exact aT_) rfl rfl (by decide)); (first | decide | (constructor <;> (try simp only [List.length_cons, List.length_nil]) <;> omega) | (constructor <;> simp <;> omega)); intro a_ cp_ N_ hO_; have oN_ := hO_.own; (try simp only [List.nil_append, List.append_assoc] at hO_); (try simp only [List.append_eq, List.append_assoc, List.cons_append, List.nil_append])) | ((first | apply w9 | apply x8); exact rfl; exact rfl) | (apply w7; first | refine u9 (h := ?_) | refine y9 (h := ?_) | refine w8 (h := ?_) | refine q6 (h := ?_) | refine q0 (h := ?_)) | (apply p3; exact rfl; exact rfl; exact rfl) | (apply j0; exact rfl; exact rfl; exact rfl; (constructor <;> omega)) | (apply q7; first | refine q8 (h := ?_) | refine q9 (h := ?_)) | (apply m9; refine l9 (h := fun _ => ?_)) | ((first | apply s9 | apply x9 | apply z8 | apply s7 | apply s8 | apply w4 | apply z9 | apply w5)) | ((first | apply w6 | apply z6 | apply z0 | apply p5 | apply y0 | apply z7)))
    refine o0 (i + 1, rds ++ [(⟨m.id, m.sweeps, m.rate, (ac, m.caps.length, cc), (ax, m.shifts.length, cx)⟩ : MD)], (a_, cp_), N_, (NS ++ NC) ++ NX) ⟨⟨by dsimp only; omega, by simp [hrl]⟩, zc9 (zc9 oS oC) oX, (by dsimp only; rw [take_snoc hm]; exact yg2 (by rw [hrl, List.length_take]; omega) hsh (yg4 hMV')), hO_⟩ (by dsimp only; omega) ?_ ?_
    · exact fS_
    · (try dsimp only); (try simp only [List.append_assoc, List.cons_append, List.nil_append]); exact hS_
  obtain rfl : i = p.ms.length := by omega
  rw [List.take_length] at hsh
  repeat' (first | (apply v9; exact rfl; exact dF_) | ((first | apply w9 | apply x8); exact rfl; exact rfl) | (apply w7; first | refine u9 (h := ?_) | refine y9 (h := ?_) | refine w8 (h := ?_) | refine q6 (h := ?_) | refine q0 (h := ?_)) | (apply p3; exact rfl; exact rfl; exact rfl) | (apply o9; infer_instance; exact rfl; exact rfl) | ((first | apply s9 | apply x9 | apply z8 | apply s7 | apply s8 | apply w4 | apply z9 | apply w5)) | ((first | apply w6 | apply z6 | apply z0 | apply p5 | apply y0 | apply z7)))
  apply j9 (σ := Nat × List Plt.Item × (Option Addr × Nat) × List Ent) (Fs := fun t => [(63, .int .i64 t.1), (62, .int .i64 p.items.length), (61, .slice a2 p.items.length c2), (3, ptr b3), (2, ptr b2), (1, ptr b1)])
    (Ls := fun t => t.2.2.2 ++ (NR ++ (NX ++ (⟨b3, Ce [.slice ar rds.length cr, .slice t.2.2.1.1 t.2.1.length t.2.2.1.2, .slice none 0 0] 33, true⟩ :: ⟨b2, Ce [.slice none 0 0, .slice none 0 0, .slice none 0 0] 33, true⟩ :: ⟨b1, Ce [.slice a1 p.ms.length c1, .slice a2 p.items.length c2, .slice a3 p.passes.length c3] 26, true⟩ :: []))))
    (I := fun t => (t.1 ≤ p.items.length ∧ t.2.1 = p.items.take t.1) ∧ OW 89 3 zu8 (.slice t.2.2.1.1 t.2.1.length t.2.2.1.2) t.2.1 t.2.2.2)
    (μ := fun t => p.items.length - t.1) (s0 := (0, [], (none, 0), []))
  · exact ⟨⟨Nat.zero_le _, rfl⟩, OW.nil⟩
  · exact fS_
  · (try dsimp only); simp only [List.nil_append]; exact hS_
  rintro ⟨k, ss, ⟨ai, ci⟩, NI⟩ ⟨⟨hk, hss⟩, hOI⟩
  dsimp only at hk hss hOI ⊢
  have oI := hOI.own
  have hsl : ss.length = k := by rw [hss, List.length_take]; omega
  by_cases hkl : k < p.items.length
  · obtain ⟨z, hz⟩ : ∃ y, p.items[k]? = some y := ⟨_, List.getElem?_eq_getElem hkl⟩
    obtain ⟨bz, oz, ccz, ez, fzz, rfl, hkz, hpz⟩ := hop2 (by omega)
    have gz : ∀ jj u, ([.int .i64 z.id, .int .i64 z.stop, .int .i64 z.batch] : List Value)[jj]? = some u → ccz[oz + k * 3 + jj]? = some u := hpz.get hz
    have hsn : ss ++ [z] = p.items.take (k + 1) := by rw [take_snoc hz, hss]
    have hs300 : ss.length ≤ 300 := by omega
    as_aux_lemma =>
      repeat' (first | (apply v8; exact rfl; exact dT_) | (apply zc4 (enc := zu8) (ys := [z]); infer_instance; infer_instance; infer_instance; exact rfl; exact zq4; exact yd1; exact rfl; exact rfl; exact rfl; assumption; exact rL_; (exact fun w hw => SV.lit [z] zq4 hw (by exact aT_) rfl rfl (by decide)); (first | decide | (constructor <;> (try simp only [List.length_cons, List.length_nil]) <;> omega) | (constructor <;> simp <;> omega)); intro a_ cp_ N_ hO_; have oN_ := hO_.own; (try simp only [List.nil_append, List.append_assoc] at hO_); (try simp only [List.append_eq, List.append_assoc, List.cons_append, List.nil_append])) | ((first | apply w9 | apply x8); exact rfl; exact rfl) | (apply w7; first | refine u9 (h := ?_) | refine y9 (h := ?_) | refine w8 (h := ?_) | refine q6 (h := ?_) | refine q0 (h := ?_)) | (apply p3; exact rfl; exact rfl; exact rfl) | (apply j0; exact rfl; exact rfl; exact rfl; (constructor <;> omega)) | (apply o7; exact rfl; intro _) | (apply q7; first | refine q8 (h := ?_) | refine q9 (h := ?_)) | (apply g7; first | refine a8 (h := ?_)) | (apply m9; refine l9 (h := fun _ => ?_)) | (apply m8; infer_instance; infer_instance; exact rfl; exact rfl; (first | exact rfl | omega); exact rfl; (first | assumption | omega | decide)) | ((first | apply s9 | apply x9 | apply z8 | apply s7 | apply s8 | apply w4 | apply z9 | apply w5)) | ((first | apply w6 | apply z6 | apply z0 | apply p5 | apply y0 | apply z7)))
      refine o0 (k + 1, ss ++ [z], (a_, cp_), N_) ⟨⟨by dsimp only; omega, hsn⟩, hO_⟩ (by dsimp only; omega) ?_ ?_
      · exact fS_
      · (try dsimp only); (try simp only [List.append_assoc, List.cons_append, List.nil_append]); exact hS_
  obtain rfl : k = p.items.length := by omega
  rw [List.take_length] at hss
  subst hss
  repeat' (first | (apply v9; exact rfl; exact dF_) | ((first | apply w9 | apply x8); exact rfl; exact rfl) | (apply w7; first | refine u9 (h := ?_) | refine y9 (h := ?_) | refine w8 (h := ?_) | refine q6 (h := ?_) | refine q0 (h := ?_)) | (apply p3; exact rfl; exact rfl; exact rfl) | (apply o9; infer_instance; exact rfl; exact rfl) | ((first | apply s9 | apply x9 | apply z8 | apply s7 | apply s8 | apply w4 | apply z9 | apply w5)) | ((first | apply w6 | apply z6 | apply z0 | apply p5 | apply y0 | apply z7)))
  apply j9 (σ := Nat × List PD × (Option Addr × Nat) × List Ent × List Ent) (Fs := fun t => [(83, .int .i64 t.1), (82, .int .i64 p.passes.length), (81, .slice a3 p.passes.length c3), (3, ptr b3), (2, ptr b2), (1, ptr b1)])
    (Ls := fun t => t.2.2.2.1 ++ (t.2.2.2.2 ++ (NI ++ (NR ++ (NX ++ (⟨b3, Ce [.slice ar rds.length cr, .slice ai p.items.length ci, .slice t.2.2.1.1 t.2.1.length t.2.2.1.2] 33, true⟩ :: ⟨b2, Ce [.slice none 0 0, .slice none 0 0, .slice none 0 0] 33, true⟩ :: ⟨b1, Ce [.slice a1 p.ms.length c1, .slice a2 p.items.length c2, .slice a3 p.passes.length c3] 26, true⟩ :: []))))))
    (I := fun t => (t.1 ≤ p.passes.length ∧ t.2.1.length = t.1) ∧ (∀ x ∈ t.2.2.2.2, x.own = true) ∧ Shw t.2.2.2.2 (R2 PassV t.2.1 (p.passes.take t.1)) ∧ OW 93 6 zV4 (.slice t.2.2.1.1 t.2.1.length t.2.2.1.2) t.2.1 t.2.2.2.1)
    (μ := fun t => p.passes.length - t.1) (s0 := (0, [], (none, 0), [], []))
  · exact ⟨⟨Nat.zero_le _, rfl⟩, by simp, yg3, OW.nil⟩
  · exact fS_
  · (try dsimp only); simp only [List.nil_append]; exact hS_
  rintro ⟨j, yds, ⟨aq, cq⟩, NP, NY⟩ ⟨⟨hj, hyl⟩, oY, hshy, hOP⟩
  dsimp only at hj hyl oY hshy hOP ⊢
  have oP := hOP.own
  by_cases hlt2 : j < p.passes.length
  · obtain ⟨y, hy⟩ : ∃ y, p.passes[j]? = some y := ⟨_, List.getElem?_eq_getElem hlt2⟩
    obtain ⟨dy, hdy⟩ : ∃ z, ys[j]? = some z := ⟨_, List.getElem?_eq_getElem (by omega)⟩
    have hPV := hpass j dy y hdy hy
    obtain ⟨s1, o1, s2, o2, s3, o3, rfl⟩ := hPV.eqs
    have hsrc := hPV.src
    have htab := hPV.table
    have hunr := hPV.unread
    dsimp only [sdV] at hsrc htab hunr
    obtain ⟨_, _, e4, hc4, hop4⟩ := hsrc.open
    cases e4
    obtain ⟨_, _, e5, hc5, hop5⟩ := htab.open
    cases e5
    obtain ⟨bp, op, ccp, ep, fzp, rfl, hkp, hpp⟩ := hop3 (by omega)
    have gy : ∀ jj u, ([.int .i64 y.id, .int .i64 y.mach, .int .i64 y.rel, .slice s1 y.src.length o1, .slice s2 y.table.length o2, .slice s3 y.unread.length o3] : List Value)[jj]? = some u → ccp[op + j * 6 + jj]? = some u := hpp.get hdy
    obtain ⟨hl1, hl2, hl3⟩ := hf.pass y (List.mem_of_getElem? hy)
    repeat' (first | (apply v8; exact rfl; exact dT_) | ((apply p6 (id := 21) [(8, cpφ y.unread)]); kernel_rfl; kernel_rfl) | ((first | ((apply f5 (f := 21)); exact rfl) | ((apply d6 (f := 21)); exact rfl; exact rfl; exact sJ_)); exact eV_; exact (fun w hw => zG7 w (hunr.keep hw (by exact aO_)) (by omega)); rintro v NC ⟨ac, cc, rfl, hOC, oC⟩ <;> (try simp only [List.cons_append, List.nil_append, List.append_assoc])) | ((first | apply w9 | apply x8); exact rfl; exact rfl) | (apply w7; first | refine u9 (h := ?_) | refine y9 (h := ?_) | refine w8 (h := ?_) | refine q6 (h := ?_) | refine q0 (h := ?_)) | (apply p3; exact rfl; exact rfl; exact rfl) | (apply o7; exact rfl; intro _) | (apply q7; first | refine q8 (h := ?_) | refine q9 (h := ?_)) | (apply o9; infer_instance; exact rfl; exact rfl) | (apply m8; infer_instance; infer_instance; exact rfl; exact rfl; (first | exact rfl | omega); exact rfl; (first | assumption | omega | decide)) | ((first | apply s9 | apply x9 | apply z8 | apply s7 | apply s8 | apply w4 | apply z9 | apply w5)) | ((first | apply w6 | apply z6 | apply z0 | apply p5 | apply y0 | apply z7)) | (apply za6; try simp only [za9, List.cons_append, List.nil_append]) | ((first | apply i9 | apply m5); exact rfl; exact rfl) | (apply m0; first | refine k8 (h := ?_) | refine p7 (h := ?_) | refine m6 (h := ?_) | refine d8 (h := ?_) | refine d7 (h := ?_)) | (apply zx1; first | refine zD2 (h := ?_)) | (apply zs3; first | refine zq0 (h := ?_)) | (apply zD9; exact rfl; intro _))
    rename_i b12 b13
    apply j9 (σ := Nat × List (Int × Int) × (Option Addr × Nat) × List Ent) (Fs := fun t => [(100, .int .i64 t.1), (99, .int .i64 y.src.length), (98, .slice s1 y.src.length o1), (12, ptr b12), (13, ptr b13), (83, .int .i64 j), (82, .int .i64 p.passes.length), (81, .slice (some ⟨bp, op, none⟩) p.passes.length c3), (3, ptr b3), (2, ptr b2), (1, ptr b1)])
      (Ls := fun t => t.2.2.2 ++ (⟨b13, Ce [.int .i64 y.id, .int .i64 y.mach, .int .i64 y.rel, .slice t.2.2.1.1 t.2.1.length t.2.2.1.2, .slice none 0 0, .slice ac y.unread.length cc] 93, true⟩ :: ⟨b12, Ce [.int .i64 y.id, .int .i64 y.mach, .int .i64 y.rel, .slice s1 y.src.length o1, .slice s2 y.table.length o2, .slice s3 y.unread.length o3] 49, true⟩ :: (NC ++ (NP ++ (NY ++ (NI ++ (NR ++ (NX ++ (⟨b3, Ce [.slice ar rds.length cr, .slice ai p.items.length ci, .slice aq yds.length cq] 33, true⟩ :: ⟨b2, Ce [.slice none 0 0, .slice none 0 0, .slice none 0 0] 33, true⟩ :: ⟨b1, Ce [.slice a1 p.ms.length c1, .slice a2 p.items.length c2, .slice (some ⟨bp, op, none⟩) p.passes.length c3] 26, true⟩ :: [])))))))))
      (I := fun t => (t.1 ≤ y.src.length ∧ t.2.1 = y.src.take t.1) ∧ OW 96 2 zP5 (.slice t.2.2.1.1 t.2.1.length t.2.2.1.2) t.2.1 t.2.2.2)
      (μ := fun t => y.src.length - t.1) (s0 := (0, [], (none, 0), []))
    · exact ⟨⟨Nat.zero_le _, rfl⟩, OW.nil⟩
    · exact fS_
    · (try dsimp only); simp only [List.nil_append]; exact hS_
    rintro ⟨k, ss, ⟨ax, cx⟩, NS⟩ ⟨⟨hk, hss⟩, hOS⟩
    dsimp only at hk hss hOS ⊢
    have oS := hOS.own
    have hsl : ss.length = k := by rw [hss, List.length_take]; omega
    by_cases hkl : k < y.src.length
    · obtain ⟨z, hz⟩ : ∃ z, y.src[k]? = some z := ⟨_, List.getElem?_eq_getElem hkl⟩
      obtain ⟨bz, oz, ccz, ez, fzz, rfl, hkz, hpz⟩ := hop4 (by omega)
      have gz : ∀ jj u, ([.int .i64 z.1, .int .i64 z.2] : List Value)[jj]? = some u → ccz[oz + k * 2 + jj]? = some u := hpz.get hz
      have hsn : ss ++ [z] = y.src.take (k + 1) := by rw [take_snoc hz, hss]
      have hs300 : ss.length ≤ 300 := by omega
      as_aux_lemma =>
        repeat' (first | (apply v8; exact rfl; exact dT_) | (apply zc4 (enc := zP5) (ys := [z]); infer_instance; infer_instance; infer_instance; exact rfl; exact zn3; exact yj0; exact rfl; exact rfl; exact rfl; assumption; exact rL_; (exact fun w hw => SV.lit [z] zn3 hw (by exact aT_) rfl rfl (by decide)); (first | decide | (constructor <;> (try simp only [List.length_cons, List.length_nil]) <;> omega) | (constructor <;> simp <;> omega)); intro a_ cp_ N_ hO_; have oN_ := hO_.own; (try simp only [List.nil_append, List.append_assoc] at hO_); (try simp only [List.append_eq, List.append_assoc, List.cons_append, List.nil_append])) | ((first | apply w9 | apply x8); exact rfl; exact rfl) | (apply w7; first | refine u9 (h := ?_) | refine y9 (h := ?_) | refine w8 (h := ?_) | refine q6 (h := ?_) | refine q0 (h := ?_)) | (apply p3; exact rfl; exact rfl; exact rfl) | (apply j0; exact rfl; exact rfl; exact rfl; (constructor <;> omega)) | (apply o7; exact rfl; intro _) | (apply q7; first | refine q8 (h := ?_) | refine q9 (h := ?_)) | (apply g7; first | refine a8 (h := ?_)) | (apply m9; refine l9 (h := fun _ => ?_)) | (apply m8; infer_instance; infer_instance; exact rfl; exact rfl; (first | exact rfl | omega); exact rfl; (first | assumption | omega | decide)) | ((first | apply s9 | apply x9 | apply z8 | apply s7 | apply s8 | apply w4 | apply z9 | apply w5)) | ((first | apply w6 | apply z6 | apply z0 | apply p5 | apply y0 | apply z7)))
        refine o0 (k + 1, ss ++ [z], (a_, cp_), N_) ⟨⟨by dsimp only; omega, hsn⟩, hO_⟩ (by dsimp only; omega) ?_ ?_
        · exact fS_
        · (try dsimp only); (try simp only [List.append_assoc, List.cons_append, List.nil_append]); exact hS_
    obtain rfl : k = y.src.length := by omega
    rw [List.take_length] at hss
    subst hss
    repeat' (first | (apply v9; exact rfl; exact dF_) | ((first | apply w9 | apply x8); exact rfl; exact rfl) | (apply w7; first | refine u9 (h := ?_) | refine y9 (h := ?_) | refine w8 (h := ?_) | refine q6 (h := ?_) | refine q0 (h := ?_)) | (apply p3; exact rfl; exact rfl; exact rfl) | (apply o9; infer_instance; exact rfl; exact rfl) | ((first | apply s9 | apply x9 | apply z8 | apply s7 | apply s8 | apply w4 | apply z9 | apply w5)) | ((first | apply w6 | apply z6 | apply z0 | apply p5 | apply y0 | apply z7)))
    apply j9 (σ := Nat × List Plt.Row × (Option Addr × Nat) × List Ent) (Fs := fun t => [(118, .int .i64 t.1), (117, .int .i64 y.table.length), (116, .slice s2 y.table.length o2), (13, ptr b13), (83, .int .i64 j), (82, .int .i64 p.passes.length), (81, .slice (some ⟨bp, op, none⟩) p.passes.length c3), (3, ptr b3), (2, ptr b2), (1, ptr b1)])
      (Ls := fun t => t.2.2.2 ++ (⟨b13, Ce [.int .i64 y.id, .int .i64 y.mach, .int .i64 y.rel, .slice ax y.src.length cx, .slice t.2.2.1.1 t.2.1.length t.2.2.1.2, .slice ac y.unread.length cc] 93, true⟩ :: (NS ++ (NC ++ (NP ++ (NY ++ (NI ++ (NR ++ (NX ++ (⟨b3, Ce [.slice ar rds.length cr, .slice ai p.items.length ci, .slice aq yds.length cq] 33, true⟩ :: ⟨b2, Ce [.slice none 0 0, .slice none 0 0, .slice none 0 0] 33, true⟩ :: ⟨b1, Ce [.slice a1 p.ms.length c1, .slice a2 p.items.length c2, .slice (some ⟨bp, op, none⟩) p.passes.length c3] 26, true⟩ :: []))))))))))
      (I := fun t => (t.1 ≤ y.table.length ∧ t.2.1 = y.table.take t.1) ∧ OW 99 2 zP4 (.slice t.2.2.1.1 t.2.1.length t.2.2.1.2) t.2.1 t.2.2.2)
      (μ := fun t => y.table.length - t.1) (s0 := (0, [], (none, 0), []))
    · exact ⟨⟨Nat.zero_le _, rfl⟩, OW.nil⟩
    · exact fS_
    · (try dsimp only); simp only [List.nil_append]; exact hS_
    rintro ⟨k, ss, ⟨at_, ct⟩, NT⟩ ⟨⟨hk, hss⟩, hOT⟩
    dsimp only at hk hss hOT ⊢
    have oT := hOT.own
    have hsl : ss.length = k := by rw [hss, List.length_take]; omega
    by_cases hkl : k < y.table.length
    · obtain ⟨z, hz⟩ : ∃ z, y.table[k]? = some z := ⟨_, List.getElem?_eq_getElem hkl⟩
      obtain ⟨bz, oz, ccz, ez, fzz, rfl, hkz, hpz⟩ := hop5 (by omega)
      have gz : ∀ jj u, ([.int .i64 z.stop, .int .i64 z.st] : List Value)[jj]? = some u → ccz[oz + k * 2 + jj]? = some u := hpz.get hz
      have hsn : ss ++ [z] = y.table.take (k + 1) := by rw [take_snoc hz, hss]
      have hs300 : ss.length ≤ 300 := by omega
      as_aux_lemma =>
        repeat' (first | (apply v8; exact rfl; exact dT_) | (apply zc4 (enc := zP4) (ys := [z]); infer_instance; infer_instance; infer_instance; exact rfl; exact zn2; exact yi9; exact rfl; exact rfl; exact rfl; assumption; exact rL_; (exact fun w hw => SV.lit [z] zn2 hw (by exact aT_) rfl rfl (by decide)); (first | decide | (constructor <;> (try simp only [List.length_cons, List.length_nil]) <;> omega) | (constructor <;> simp <;> omega)); intro a_ cp_ N_ hO_; have oN_ := hO_.own; (try simp only [List.nil_append, List.append_assoc] at hO_); (try simp only [List.append_eq, List.append_assoc, List.cons_append, List.nil_append])) | ((first | apply w9 | apply x8); exact rfl; exact rfl) | (apply w7; first | refine u9 (h := ?_) | refine y9 (h := ?_) | refine w8 (h := ?_) | refine q6 (h := ?_) | refine q0 (h := ?_)) | (apply p3; exact rfl; exact rfl; exact rfl) | (apply j0; exact rfl; exact rfl; exact rfl; (constructor <;> omega)) | (apply o7; exact rfl; intro _) | (apply q7; first | refine q8 (h := ?_) | refine q9 (h := ?_)) | (apply g7; first | refine a8 (h := ?_)) | (apply m9; refine l9 (h := fun _ => ?_)) | (apply m8; infer_instance; infer_instance; exact rfl; exact rfl; (first | exact rfl | omega); exact rfl; (first | assumption | omega | decide)) | ((first | apply s9 | apply x9 | apply z8 | apply s7 | apply s8 | apply w4 | apply z9 | apply w5)) | ((first | apply w6 | apply z6 | apply z0 | apply p5 | apply y0 | apply z7)))
        refine o0 (k + 1, ss ++ [z], (a_, cp_), N_) ⟨⟨by dsimp only; omega, hsn⟩, hO_⟩ (by dsimp only; omega) ?_ ?_
        · exact fS_
        · (try dsimp only); (try simp only [List.append_assoc, List.cons_append, List.nil_append]); exact hS_
    obtain rfl : k = y.table.length := by omega
    rw [List.take_length] at hss
    subst hss
    have hy300 : yds.length ≤ 300 := by omega
    have hPV' : Shw (NT ++ (NS ++ NC)) (fun w => PassV w (⟨y.id, y.mach, y.rel, (ax, y.src.length, cx), (at_, y.table.length, ct), (ac, y.unread.length, cc)⟩ : PD) y) := fun w0 w1 L L0 hra hw => ⟨rfl, rfl, rfl, (Shw.right (Shw.left (Shw.ow zn3 hOS))) _ _ _ _ hra hw, (Shw.left (Shw.ow zn2 hOT)) _ _ _ _ hra hw, (Shw.right (Shw.right (Shw.ow j8 hOC))) _ _ _ _ hra hw⟩
    repeat' (first | (apply v9; exact rfl; exact dF_) | (apply zc4 (enc := zV4) (ys := [(⟨y.id, y.mach, y.rel, (ax, y.src.length, cx), (at_, y.table.length, ct), (ac, y.unread.length, cc)⟩ : PD)]); infer_instance; infer_instance; infer_instance; exact rfl; exact zw5; exact yp9; exact rfl; exact rfl; exact rfl; assumption; exact rL_; (exact fun w hw => SV.lit [(⟨y.id, y.mach, y.rel, (ax, y.src.length, cx), (at_, y.table.length, ct), (ac, y.unread.length, cc)⟩ : PD)] zw5 hw (by exact aT_) rfl rfl (by decide)); (first | decide | (constructor <;> (try simp only [List.length_cons, List.length_nil]) <;> omega) | (constructor <;> simp <;> omega)); intro a_ cp_ N_ hO_; have oN_ := hO_.own; (try simp only [List.nil_append, List.append_assoc] at hO_); (try simp only [List.append_eq, List.append_assoc, List.cons_append, List.nil_append])) | ((first | apply w9 | apply x8); exact rfl; exact rfl) | (apply w7; first | refine u9 (h := ?_) | refine y9 (h := ?_) | refine w8 (h := ?_) | refine q6 (h := ?_) | refine q0 (h := ?_)) | (apply p3; exact rfl; exact rfl; exact rfl) | (apply j0; exact rfl; exact rfl; exact rfl; (constructor <;> omega)) | (apply q7; first | refine q8 (h := ?_) | refine q9 (h := ?_)) | (apply m9; refine l9 (h := fun _ => ?_)) | ((first | apply s9 | apply x9 | apply z8 | apply s7 | apply s8 | apply w4 | apply z9 | apply w5)) | ((first | apply w6 | apply z6 | apply z0 | apply p5 | apply y0 | apply z7)))
    refine o0 (j + 1, yds ++ [(⟨y.id, y.mach, y.rel, (ax, y.src.length, cx), (at_, y.table.length, ct), (ac, y.unread.length, cc)⟩ : PD)], (a_, cp_), N_, (NT ++ (NS ++ NC)) ++ NY) ⟨⟨by dsimp only; omega, by simp [hyl]⟩, zc9 (zc9 oT (zc9 oS oC)) oY, (by dsimp only; rw [take_snoc hy]; exact yg2 (by rw [hyl, List.length_take]; omega) hshy (yg4 hPV')), hO_⟩ (by dsimp only; omega) ?_ ?_
    · exact fS_
    · (try dsimp only); (try simp only [List.append_assoc, List.cons_append, List.nil_append]); exact hS_
  obtain rfl : j = p.passes.length := by omega
  rw [List.take_length] at hshy
  repeat' (first | (apply v9; exact rfl; exact dF_) | (apply w7; first | refine u9 (h := ?_) | refine y9 (h := ?_) | refine w8 (h := ?_) | refine q6 (h := ?_) | refine q0 (h := ?_)) | (apply p3; exact rfl; exact rfl; exact rfl) | (apply q7; first | refine q8 (h := ?_) | refine q9 (h := ?_)) | ((first | apply s9 | apply x9 | apply z8 | apply s7 | apply s8 | apply w4 | apply z9 | apply w5)) | ((first | apply w6 | apply z6 | apply z0 | apply p5 | apply y0 | apply z7)))
  apply p8; apply zb0 Try.results7; exact rV_; intro w' hw
  refine ⟨_, NP ++ (NY ++ (NI ++ (NR ++ NX))), rfl, ⟨⟨(ar, rds.length, cr), (ai, p.items.length, ci), (aq, yds.length, cq), rds, yds⟩, rfl, ?_, ?_⟩, hw.sub (by (try simp only [List.append_assoc]); exact hS_), ?_⟩
  · intro w0 w1 L L0 hra hw
    exact ⟨(Shw.right (Shw.right (Shw.right (Shw.left (Shw.ow zw4 hO))))) _ _ _ _ hra hw, (Shw.right (Shw.right (Shw.left (Shw.ow zq4 hOI)))) _ _ _ _ hra hw, (Shw.left (Shw.ow zw5 hOP)) _ _ _ _ hra hw, hrl, hyl, (Shw.right (Shw.right (Shw.right (Shw.right hsh)))) _ _ _ _ hra hw, (Shw.right (Shw.left hshy)) _ _ _ _ hra hw⟩
  · exact zc9 oP (zc9 oY (zc9 oI (zc9 oR oX)))
  · exact zc9 oP (zc9 oY (zc9 oI (zc9 oR oX)))
end Go.Proofs.Ytdahckhlfldkkaa
namespace Go.Proofs.Ytdahckhlfldkkaa
open Go Go.Sx Go.RowKit
attribute [local irreducible] WL WC WQ WR WB WF QB St Exit.then Exit.inBlock Exit.noGoto bodyPost roundPost zc1 YR RG BM Calls B zc7 ze3
theorem PlV.eqs {w : World} {q : PlD} {p : Plt.g8} (h : PlV w q p) : ∃ a1 c1 a2 c2 a3 c3 ds ys, q = ⟨(a1, p.ms.length, c1), (a2, p.items.length, c2), (a3, p.passes.length, c3), ds, ys⟩ := by
  obtain ⟨⟨a1, n1, c1⟩, ⟨a2, n2, c2⟩, ⟨a3, n3, c3⟩, ds, ys⟩ := q
  obtain ⟨hM, hI, hP, lm, lp, -, -⟩ := h
  dsimp only [sdV] at hM hI hP lm lp
  obtain ⟨_, _, e1, -, -⟩ := hM.open
  cases e1
  obtain ⟨_, _, e2, -, -⟩ := hI.open
  cases e2
  obtain ⟨_, _, e3, -, -⟩ := hP.open
  cases e3
  exact ⟨a1, c1, a2, c2, a3, c3, ds, ys, by rw [lm, lp]⟩
theorem zZ2 {q : PlD} {p : Plt.g8} (hf : Plt.Few p) (w : World) (h : PlV w q p) : Calls Try.prog 7 #[plV q] w fun e w' => ∃ v N, e = .returned v ∧
    (∃ a1 c1 a2 c2 a3 c3 ds ys, v = .agg #[.slice a1 p.ms.length c1, .slice a2 p.items.length c2, .slice a3 p.passes.length c3] ∧ Shw N (fun w => PlV w ⟨(a1, p.ms.length, c1), (a2, p.items.length, c2), (a3, p.passes.length, c3), ds, ys⟩ p) ∧ ∀ x ∈ N, x.own = true) ∧ Rep w w' N ∧ ∀ x ∈ N, x.own = true :=
  (yd5 hf w h).mono fun e w' ⟨v, N, h1, ⟨q, h2, h3, h4⟩, h5, h6⟩ => by
    obtain ⟨a1, c1, a2, c2, a3, c3, ds, ys, rfl⟩ := (h3.all h5).eqs
    exact ⟨v, N, h1, ⟨a1, c1, a2, c2, a3, c3, ds, ys, h2, h3, h4⟩, h5, h6⟩
end Go.Proofs.Ytdahckhlfldkkaa
