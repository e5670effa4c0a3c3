/- A part of the proofs of this seat: a small logic of walks, plain laws, and what some of the program's functions compute, shown by walks through their code. Conditions: the hypotheses that each theorem names. -/
import Derived.Test.YtdahckhlfldkkaaZPSmall3
import Derived.Test.YtdahckhlfldkkaaZPSmall9
import Derived.Test.YtdahckhlfldkkaaZPSmall11
set_option linter.unusedSimpArgs false
set_option linter.unusedVariables false
set_option linter.unusedSectionVars false
namespace Go.Proofs.Ytdahckhlfldkkaa
open Go Go.Sx Go.RowKit
attribute [local irreducible] WL WC WQ WR WB WF QB St Exit.then Exit.inBlock Exit.noGoto bodyPost roundPost zc1 YR RG BM Calls B zc7 ze3
set_option maxHeartbeats 32000000 in
set_option maxRecDepth 100000 in
theorem yj4 {q : PlD} {p : Plt.g8} {i : Nat} {y : Plt.za3} (hy : p.passes[i]? = some y) (hpre : ∀ (j : Nat) (z : Plt.za3), j < i → p.passes[j]? = some z → 0 ≤ Plt.zj4 z.mach (p.ms.map Plt.zb6.id)) (w : World) (h : PlV w q p) (hsz : p.ms.length ≤ 20 ∧ p.passes.length ≤ 60) :
    Calls Try.prog 34 #[plV q, .int .i64 i] w fun e w' => e = .returned (.bool (B (Plt.zh1 (Plt.zf5 p.ms) (psF (Plt.zf5 p.ms) (p.passes.take i)) (tkF (p.passes.take i)) y))) ∧ Below w.heap.size w w' := by
  have hV := h
  obtain ⟨⟨a1, n1, c1⟩, ⟨a2, n2, c2⟩, ⟨a3, n3, c3⟩, ds, ys⟩ := q
  obtain ⟨hM, hI, hP, lm, lp, hmach, hpass⟩ := h
  dsimp only [sdV, plV] at hM hI hP lm lp hmach hpass ⊢
  obtain ⟨_, _, e1, hc1, hop1⟩ := hM.open
  cases e1
  obtain ⟨_, _, e2, hc2, hop2⟩ := hI.open
  cases e2
  obtain ⟨_, _, e3, hc3, hop3⟩ := hP.open
  cases e3
  rw [lm] at hc1 hop1 hM hV ⊢
  rw [lp] at hc3 hop3 hP hV ⊢
  have hil := (List.getElem?_eq_some_iff.1 hy).1
  obtain ⟨d, hd⟩ : ∃ d, ys[i]? = some d := ⟨_, List.getElem?_eq_getElem (by omega)⟩
  have hPV := hpass i d y hd hy
  obtain ⟨x1, k1, x2, k2, x3, k3, rfl⟩ := hPV.eqs
  obtain ⟨-, -, -, hsrc, htab, hunr⟩ := hPV
  dsimp only [sdV] at hsrc htab hunr
  obtain ⟨_, _, e4, hc4, hop4⟩ := hsrc.open
  cases e4
  obtain ⟨_, _, e5, hc5, hop5⟩ := htab.open
  cases e5
  obtain ⟨_, _, e6, hc6, -⟩ := hunr.open
  cases e6
  obtain ⟨bp, op, ccp, ep, fzp, rfl, hkp, hpp⟩ := hop3 (by omega)
  have gy : ∀ j u, ([.int .i64 y.id, .int .i64 y.mach, .int .i64 y.rel, .slice x1 y.src.length k1, .slice x2 y.table.length k2, .slice x3 y.unread.length k3] : List Value)[j]? = some u → ccp[op + i * 6 + j]? = some u := hpp.get hd
  obtain ⟨mi, hmi⟩ : ∃ k, Plt.zj4 y.mach (p.ms.map Plt.zb6.id) = k := ⟨_, rfl⟩
  obtain ⟨zp, hzp⟩ : ∃ k, Plt.zj4 y.id (p.passes.map Plt.za3.id) = k := ⟨_, rfl⟩
  have hhead := Plt.yd6 (ms := p.ms) hy
  rw [hmi, hzp] at hhead
  have hzr := Plt.zG0 y.mach (p.ms.map Plt.zb6.id)
  rw [hmi, List.length_map] at hzr
  by_cases hid : 1 ≤ y.id ∧ y.id ≤ 999999
  case neg =>
    rw [zc2 (fun g => hid (hhead.1 g.1).1)]
    as_aux_lemma =>
      refine za8 Try.func34 rfl Try.ntmps34 rfl (Rep.start w) ?_
      repeat' (first | ((first | ((apply t8 (f := 24)); exact rfl) | ((apply t9 (f := 24)); exact rfl; kernel_rfl; exact rfl; exact sJ_)); exact eV_; exact (fun w hw => ze7 hmi w (hV.keep hw (by exact aO_)))) | ((first | ((apply t8 (f := 33)); exact rfl) | ((apply t9 (f := 33)); exact rfl; kernel_rfl; exact rfl; exact sJ_)); exact eV_; exact (fun w _ => zo7 (decide_eq_false hid) w)) | ((first | apply w9 | apply y8 | apply x8 | apply p4); exact rfl; exact rfl) | (apply w7; first | refine u9 (h := ?_) | refine y9 (h := ?_) | refine w8 (h := ?_) | refine q6 (h := ?_) | refine q0 (h := ?_)) | (apply zd5; exact rfl; exact rfl) | (apply n8; exact rfl; exact tT_; exact rfl; exact rfl) | (apply o7; exact rfl; intro _) | (apply zc5; exact rfl; exact rfl; exact rfl; intro _) | (apply q7; first | refine q8 (h := ?_) | refine q9 (h := ?_)) | (apply m8; infer_instance; infer_instance; exact rfl; exact rfl; (first | exact rfl | omega); exact rfl; (first | assumption | omega | decide)) | (apply za5; exact rfl; exact gG_; exact rfl) | ((first | apply s9 | apply x9 | apply z8 | apply s7 | apply s8 | apply w4 | apply z9 | apply w5)) | (apply v8; exact rfl; exact tT_) | ((first | apply w6 | apply z6 | apply z0 | apply p5 | apply y0 | apply z7)))
      apply p8; apply zb0 Try.results34; exact rV_; intro w' hw
      exact ⟨rfl, hw.below (by simp)⟩
  by_cases hz0 : zp = (i : Int)
  case neg =>
    rw [zc2 (fun g => hz0 (hhead.1 g.1).2.1)]
    as_aux_lemma =>
      refine za8 Try.func34 rfl Try.ntmps34 rfl (Rep.start w) ?_
      repeat' (first | (apply n8; exact rfl; exact dT_; exact rfl; exact rfl) | (apply za5; exact rfl; exact dT_; exact rfl) | ((first | ((apply t8 (f := 24)); exact rfl) | ((apply t9 (f := 24)); exact rfl; kernel_rfl; exact rfl; exact sJ_)); exact eV_; exact (fun w hw => ze7 hmi w (hV.keep hw (by exact aO_)))) | ((first | ((apply t8 (f := 49)); exact rfl) | ((apply t9 (f := 49)); exact rfl; kernel_rfl; exact rfl; exact sJ_)); exact eV_; exact (fun w hw => zj5 hzp w (hV.keep hw (by exact aO_)))) | ((first | ((apply t8 (f := 33)); exact rfl) | ((apply t9 (f := 33)); exact rfl; kernel_rfl; exact rfl; exact sJ_)); exact eV_; exact (fun w _ => zo7 (decide_eq_true hid) w)) | ((first | apply w9 | apply y8 | apply x8 | apply p4); exact rfl; exact rfl) | (apply w7; first | refine u9 (h := ?_) | refine y9 (h := ?_) | refine w8 (h := ?_) | refine q6 (h := ?_) | refine q0 (h := ?_)) | ((first | apply p3 | apply zc8 | apply o8 | apply d9 | apply l0 | apply l8); exact rfl; exact rfl; exact rfl) | (apply zd5; exact rfl; exact rfl) | (apply n8; exact rfl; exact tT_; exact rfl; exact rfl) | (apply p9; exact rfl; exact fF_; exact rfl; exact rfl) | (apply o7; exact rfl; intro _) | (apply zc5; exact rfl; exact rfl; exact rfl; intro _) | (apply q7; first | refine q8 (h := ?_) | refine q9 (h := ?_)) | (apply m8; infer_instance; infer_instance; exact rfl; exact rfl; (first | exact rfl | omega); exact rfl; (first | assumption | omega | decide)) | ((first | apply k9); exact rfl; exact gG_) | (apply za5; exact rfl; exact gG_; exact rfl) | ((first | apply s9 | apply x9 | apply z8 | apply s7 | apply s8 | apply w4 | apply z9 | apply w5)) | (apply v8; exact rfl; exact tT_) | ((first | apply w6 | apply z6 | apply z0 | apply p5 | apply y0 | apply z7)))
      apply p8; apply zb0 Try.results34; exact rV_; intro w' hw
      exact ⟨rfl, hw.below (by simp)⟩
  by_cases hm0 : 0 ≤ mi
  case neg =>
    rw [zc2 (fun g => hm0 (hhead.1 g.1).2.2.1)]
    as_aux_lemma =>
      refine za8 Try.func34 rfl Try.ntmps34 rfl (Rep.start w) ?_
      repeat' (first | (apply n8; exact rfl; exact dT_; exact rfl; exact rfl) | (apply p9; exact rfl; exact dF_; exact rfl; exact rfl) | (apply k9; exact rfl; exact dF_) | (apply za5; exact rfl; exact dT_; exact rfl) | ((first | ((apply t8 (f := 24)); exact rfl) | ((apply t9 (f := 24)); exact rfl; kernel_rfl; exact rfl; exact sJ_)); exact eV_; exact (fun w hw => ze7 hmi w (hV.keep hw (by exact aO_)))) | ((first | ((apply t8 (f := 49)); exact rfl) | ((apply t9 (f := 49)); exact rfl; kernel_rfl; exact rfl; exact sJ_)); exact eV_; exact (fun w hw => zj5 hzp w (hV.keep hw (by exact aO_)))) | ((first | ((apply t8 (f := 33)); exact rfl) | ((apply t9 (f := 33)); exact rfl; kernel_rfl; exact rfl; exact sJ_)); exact eV_; exact (fun w _ => zo7 (decide_eq_true hid) w)) | ((first | apply w9 | apply y8 | apply x8 | apply p4); exact rfl; exact rfl) | (apply w7; first | refine u9 (h := ?_) | refine y9 (h := ?_) | refine w8 (h := ?_) | refine q6 (h := ?_) | refine q0 (h := ?_)) | ((first | apply p3 | apply zc8 | apply o8 | apply d9 | apply l0 | apply l8); exact rfl; exact rfl; exact rfl) | (apply zd5; exact rfl; exact rfl) | (apply n8; exact rfl; exact tT_; exact rfl; exact rfl) | (apply p9; exact rfl; exact fF_; exact rfl; exact rfl) | (apply o7; exact rfl; intro _) | (apply zc5; exact rfl; exact rfl; exact rfl; intro _) | (apply q7; first | refine q8 (h := ?_) | refine q9 (h := ?_)) | (apply m8; infer_instance; infer_instance; exact rfl; exact rfl; (first | exact rfl | omega); exact rfl; (first | assumption | omega | decide)) | ((first | apply k9); exact rfl; exact gG_) | (apply za5; exact rfl; exact gG_; exact rfl) | ((first | apply s9 | apply x9 | apply z8 | apply s7 | apply s8 | apply w4 | apply z9 | apply w5)) | (apply v8; exact rfl; exact tT_) | ((first | apply w6 | apply z6 | apply z0 | apply p5 | apply y0 | apply z7)))
      apply p8; apply zb0 Try.results34; exact rV_; intro w' hw
      exact ⟨rfl, hw.below (by simp)⟩
  by_cases hr0 : 0 ≤ y.rel
  case neg =>
    rw [zc2 (fun g => hr0 (hhead.1 g.1).2.2.2.1)]
    as_aux_lemma =>
      refine za8 Try.func34 rfl Try.ntmps34 rfl (Rep.start w) ?_
      repeat' (first | (apply n8; exact rfl; exact dT_; exact rfl; exact rfl) | (apply p9; exact rfl; exact dF_; exact rfl; exact rfl) | (apply k9; exact rfl; exact dF_) | (apply za5; exact rfl; exact dT_; exact rfl) | ((first | ((apply t8 (f := 24)); exact rfl) | ((apply t9 (f := 24)); exact rfl; kernel_rfl; exact rfl; exact sJ_)); exact eV_; exact (fun w hw => ze7 hmi w (hV.keep hw (by exact aO_)))) | ((first | ((apply t8 (f := 49)); exact rfl) | ((apply t9 (f := 49)); exact rfl; kernel_rfl; exact rfl; exact sJ_)); exact eV_; exact (fun w hw => zj5 hzp w (hV.keep hw (by exact aO_)))) | ((first | ((apply t8 (f := 33)); exact rfl) | ((apply t9 (f := 33)); exact rfl; kernel_rfl; exact rfl; exact sJ_)); exact eV_; exact (fun w _ => zo7 (decide_eq_true hid) w)) | ((first | apply w9 | apply y8 | apply x8 | apply p4); exact rfl; exact rfl) | (apply w7; first | refine u9 (h := ?_) | refine y9 (h := ?_) | refine w8 (h := ?_) | refine q6 (h := ?_) | refine q0 (h := ?_)) | ((first | apply p3 | apply zc8 | apply o8 | apply d9 | apply l0 | apply l8); exact rfl; exact rfl; exact rfl) | (apply zd5; exact rfl; exact rfl) | (apply n8; exact rfl; exact tT_; exact rfl; exact rfl) | (apply p9; exact rfl; exact fF_; exact rfl; exact rfl) | (apply o7; exact rfl; intro _) | (apply zc5; exact rfl; exact rfl; exact rfl; intro _) | (apply q7; first | refine q8 (h := ?_) | refine q9 (h := ?_)) | (apply m8; infer_instance; infer_instance; exact rfl; exact rfl; (first | exact rfl | omega); exact rfl; (first | assumption | omega | decide)) | ((first | apply k9); exact rfl; exact gG_) | (apply za5; exact rfl; exact gG_; exact rfl) | ((first | apply s9 | apply x9 | apply z8 | apply s7 | apply s8 | apply w4 | apply z9 | apply w5)) | (apply v8; exact rfl; exact tT_) | ((first | apply w6 | apply z6 | apply z0 | apply p5 | apply y0 | apply z7)))
      apply p8; apply zb0 Try.results34; exact rV_; intro w' hw
      exact ⟨rfl, hw.below (by simp)⟩
  by_cases hr1 : y.rel ≤ 1051898399
  case neg =>
    rw [zc2 (fun g => hr1 (hhead.1 g.1).2.2.2.2)]
    as_aux_lemma =>
      refine za8 Try.func34 rfl Try.ntmps34 rfl (Rep.start w) ?_
      repeat' (first | (apply n8; exact rfl; exact dT_; exact rfl; exact rfl) | (apply p9; exact rfl; exact dF_; exact rfl; exact rfl) | (apply k9; exact rfl; exact dF_) | (apply za5; exact rfl; exact dT_; exact rfl) | ((first | ((apply t8 (f := 24)); exact rfl) | ((apply t9 (f := 24)); exact rfl; kernel_rfl; exact rfl; exact sJ_)); exact eV_; exact (fun w hw => ze7 hmi w (hV.keep hw (by exact aO_)))) | ((first | ((apply t8 (f := 49)); exact rfl) | ((apply t9 (f := 49)); exact rfl; kernel_rfl; exact rfl; exact sJ_)); exact eV_; exact (fun w hw => zj5 hzp w (hV.keep hw (by exact aO_)))) | ((first | ((apply t8 (f := 33)); exact rfl) | ((apply t9 (f := 33)); exact rfl; kernel_rfl; exact rfl; exact sJ_)); exact eV_; exact (fun w _ => zo7 (decide_eq_true hid) w)) | ((first | apply w9 | apply y8 | apply x8 | apply p4); exact rfl; exact rfl) | (apply w7; first | refine u9 (h := ?_) | refine y9 (h := ?_) | refine w8 (h := ?_) | refine q6 (h := ?_) | refine q0 (h := ?_)) | ((first | apply p3 | apply zc8 | apply o8 | apply d9 | apply l0 | apply l8); exact rfl; exact rfl; exact rfl) | (apply zd5; exact rfl; exact rfl) | (apply n8; exact rfl; exact tT_; exact rfl; exact rfl) | (apply p9; exact rfl; exact fF_; exact rfl; exact rfl) | (apply o7; exact rfl; intro _) | (apply zc5; exact rfl; exact rfl; exact rfl; intro _) | (apply q7; first | refine q8 (h := ?_) | refine q9 (h := ?_)) | (apply m8; infer_instance; infer_instance; exact rfl; exact rfl; (first | exact rfl | omega); exact rfl; (first | assumption | omega | decide)) | ((first | apply k9); exact rfl; exact gG_) | (apply za5; exact rfl; exact gG_; exact rfl) | ((first | apply s9 | apply x9 | apply z8 | apply s7 | apply s8 | apply w4 | apply z9 | apply w5)) | (apply v8; exact rfl; exact tT_) | ((first | apply w6 | apply z6 | apply z0 | apply p5 | apply y0 | apply z7)))
      apply p8; apply zb0 Try.results34; exact rV_; intro w' hw
      exact ⟨rfl, hw.below (by simp)⟩
  by_cases ht0 : y.table.length ≤ 1000
  case neg =>
    rw [zc2 (fun g => ht0 g.2.2.1.1)]
    as_aux_lemma =>
      refine za8 Try.func34 rfl Try.ntmps34 rfl (Rep.start w) ?_
      repeat' (first | (apply n8; exact rfl; exact dT_; exact rfl; exact rfl) | (apply p9; exact rfl; exact dF_; exact rfl; exact rfl) | (apply k9; exact rfl; exact dF_) | (apply za5; exact rfl; exact dT_; exact rfl) | ((first | ((apply t8 (f := 24)); exact rfl) | ((apply t9 (f := 24)); exact rfl; kernel_rfl; exact rfl; exact sJ_)); exact eV_; exact (fun w hw => ze7 hmi w (hV.keep hw (by exact aO_)))) | ((first | ((apply t8 (f := 49)); exact rfl) | ((apply t9 (f := 49)); exact rfl; kernel_rfl; exact rfl; exact sJ_)); exact eV_; exact (fun w hw => zj5 hzp w (hV.keep hw (by exact aO_)))) | ((first | ((apply t8 (f := 33)); exact rfl) | ((apply t9 (f := 33)); exact rfl; kernel_rfl; exact rfl; exact sJ_)); exact eV_; exact (fun w _ => zo7 (decide_eq_true hid) w)) | ((first | apply w9 | apply y8 | apply x8 | apply p4); exact rfl; exact rfl) | (apply w7; first | refine u9 (h := ?_) | refine y9 (h := ?_) | refine w8 (h := ?_) | refine q6 (h := ?_) | refine q0 (h := ?_)) | ((first | apply p3 | apply zc8 | apply o8 | apply d9 | apply l0 | apply l8); exact rfl; exact rfl; exact rfl) | (apply zd5; exact rfl; exact rfl) | (apply p9; exact rfl; exact fF_; exact rfl; exact rfl) | (apply o7; exact rfl; intro _) | (apply zc5; exact rfl; exact rfl; exact rfl; intro _) | (apply q7; first | refine q8 (h := ?_) | refine q9 (h := ?_)) | (apply o9; infer_instance; exact rfl; exact rfl) | (apply m8; infer_instance; infer_instance; exact rfl; exact rfl; (first | exact rfl | omega); exact rfl; (first | assumption | omega | decide)) | ((first | apply k9); exact rfl; exact gG_) | ((first | apply s9 | apply x9 | apply z8 | apply s7 | apply s8 | apply w4 | apply z9 | apply w5)) | (apply v8; exact rfl; exact tT_) | ((first | apply w6 | apply z6 | apply z0 | apply p5 | apply y0 | apply z7)))
      apply p8; apply zb0 Try.results34; exact rV_; intro w' hw
      exact ⟨rfl, hw.below (by simp)⟩
  by_cases hu0 : y.unread.length ≤ 2000
  case neg =>
    rw [zc2 (fun g => hu0 g.2.2.1.2)]
    as_aux_lemma =>
      refine za8 Try.func34 rfl Try.ntmps34 rfl (Rep.start w) ?_
      repeat' (first | (apply v8; exact rfl; exact dT_) | (apply p9; exact rfl; exact dF_; exact rfl; exact rfl) | (apply k9; exact rfl; exact dF_) | ((first | ((apply t8 (f := 24)); exact rfl) | ((apply t9 (f := 24)); exact rfl; kernel_rfl; exact rfl; exact sJ_)); exact eV_; exact (fun w hw => ze7 hmi w (hV.keep hw (by exact aO_)))) | ((first | ((apply t8 (f := 49)); exact rfl) | ((apply t9 (f := 49)); exact rfl; kernel_rfl; exact rfl; exact sJ_)); exact eV_; exact (fun w hw => zj5 hzp w (hV.keep hw (by exact aO_)))) | ((first | ((apply t8 (f := 33)); exact rfl) | ((apply t9 (f := 33)); exact rfl; kernel_rfl; exact rfl; exact sJ_)); exact eV_; exact (fun w _ => zo7 (decide_eq_true hid) w)) | ((first | apply w9 | apply y8 | apply x8 | apply p4); exact rfl; exact rfl) | (apply w7; first | refine u9 (h := ?_) | refine y9 (h := ?_) | refine w8 (h := ?_) | refine q6 (h := ?_) | refine q0 (h := ?_)) | ((first | apply p3 | apply zc8 | apply o8 | apply d9 | apply l0 | apply l8); exact rfl; exact rfl; exact rfl) | (apply zd5; exact rfl; exact rfl) | (apply p9; exact rfl; exact fF_; exact rfl; exact rfl) | (apply o7; exact rfl; intro _) | (apply zc5; exact rfl; exact rfl; exact rfl; intro _) | (apply q7; first | refine q8 (h := ?_) | refine q9 (h := ?_)) | (apply o9; infer_instance; exact rfl; exact rfl) | (apply m8; infer_instance; infer_instance; exact rfl; exact rfl; (first | exact rfl | omega); exact rfl; (first | assumption | omega | decide)) | ((first | apply k9); exact rfl; exact gG_) | ((first | apply s9 | apply x9 | apply z8 | apply s7 | apply s8 | apply w4 | apply z9 | apply w5)) | ((first | apply w6 | apply z6 | apply z0 | apply p5 | apply y0 | apply z7)))
      apply p8; apply zb0 Try.results34; exact rV_; intro w' hw
      exact ⟨rfl, hw.below (by simp)⟩
  obtain ⟨mk, rfl⟩ := Int.eq_ofNat_of_zero_le hm0
  subst hz0
  obtain ⟨m, hm⟩ : ∃ m, p.ms[mk]? = some m := ⟨_, List.getElem?_eq_getElem (by omega)⟩
  have hma := (Plt.zZ6 hmi hm).2
  obtain ⟨dm, hdm⟩ : ∃ d, ds[mk]? = some d := ⟨_, List.getElem?_eq_getElem (by omega)⟩
  obtain ⟨z1, l1, z2, l2, rfl⟩ := (hmach mk dm m hdm hm).eqs
  obtain ⟨bm, om, ccm, em, fzm, rfl, hkm, hpm⟩ := hop1 (by omega)
  have gm : ∀ j u, ([.int .i64 m.id, .int .i64 m.sweeps, .int .i64 m.rate, .slice z1 m.caps.length l1, .slice z2 m.shifts.length l2] : List Value)[j]? = some u → ccm[om + mk * 5 + j]? = some u := hpm.get hdm
  have e0 : Plt.zh1 (Plt.zf5 p.ms) (psF (Plt.zf5 p.ms) (p.passes.take i)) (tkF (p.passes.take i)) y ↔ Plt.zg1 (psF (Plt.zf5 p.ms) (p.passes.take i)) (tkF (p.passes.take i)) y.src ∧ Plt.zf6 (m.caps.length : Int) [] y.table := by
    unfold Plt.zh1
    rw [hma, Option.getD_some]
    constructor
    · rintro ⟨_, h2, _, h4⟩; exact ⟨h2, h4⟩
    · rintro ⟨h2, h4⟩; exact ⟨hhead.2 ⟨hid, rfl, by omega, hr0, hr1⟩, h2, ⟨ht0, hu0⟩, h4⟩
  have hml : m.caps.length ≤ 9223372036854775807 := by
    have := (hmach mk _ m hdm hm).caps
    obtain ⟨_, _, _, hq, _⟩ := this.open
    exact hq.2
  generalize Plt.zh1 (Plt.zf5 p.ms) (psF (Plt.zf5 p.ms) (p.passes.take i)) (tkF (p.passes.take i)) y = OK at e0 hhead ⊢
  clear hhead
  refine za8 Try.func34 rfl Try.ntmps34 rfl (Rep.start w) ?_
  repeat' (first | (apply v9; exact rfl; exact dF_) | (apply p9; exact rfl; exact dF_; exact rfl; exact rfl) | (apply k9; exact rfl; exact dF_) | ((first | ((apply t8 (f := 24)); exact rfl) | ((apply t9 (f := 24)); exact rfl; kernel_rfl; exact rfl; exact sJ_)); exact eV_; exact (fun w hw => ze7 hmi w (hV.keep hw (by exact aO_)))) | ((first | ((apply t8 (f := 49)); exact rfl) | ((apply t9 (f := 49)); exact rfl; kernel_rfl; exact rfl; exact sJ_)); exact eV_; exact (fun w hw => zj5 hzp w (hV.keep hw (by exact aO_)))) | ((first | ((apply t8 (f := 33)); exact rfl) | ((apply t9 (f := 33)); exact rfl; kernel_rfl; exact rfl; exact sJ_)); exact eV_; exact (fun w _ => zo7 (decide_eq_true hid) w)) | ((first | apply w9 | apply y8 | apply x8 | apply p4); exact rfl; exact rfl) | (apply w7; first | refine u9 (h := ?_) | refine y9 (h := ?_) | refine w8 (h := ?_) | refine q6 (h := ?_) | refine q0 (h := ?_)) | ((first | apply p3 | apply zc8 | apply o8 | apply d9 | apply l0 | apply l8); exact rfl; exact rfl; exact rfl) | (apply zd5; exact rfl; exact rfl) | (apply p9; exact rfl; exact fF_; exact rfl; exact rfl) | (apply o7; exact rfl; intro _) | (apply zc5; exact rfl; exact rfl; exact rfl; intro _) | (apply q7; first | refine q8 (h := ?_) | refine q9 (h := ?_)) | (apply o9; infer_instance; exact rfl; exact rfl) | (apply m8; infer_instance; infer_instance; exact rfl; exact rfl; (first | exact rfl | omega); exact rfl; (first | assumption | omega | decide)) | ((first | apply k9); exact rfl; exact gG_) | ((first | apply s9 | apply x9 | apply z8 | apply s7 | apply s8 | apply w4 | apply z9 | apply w5)) | ((first | apply w6 | apply z6 | apply z0 | apply p5 | apply y0 | apply z7)))
  rename_i b2 b5
  apply j9 (σ := Nat) (Fs := fun k => [(7, .int .i64 k), (6, .int .i64 mk), (5, ptr b5), (2, ptr b2), (1, .int .i64 i)]) (Ls := fun _ => ⟨b5, Ce [.int .i64 y.id, .int .i64 y.mach, .int .i64 y.rel, .slice x1 y.src.length k1, .slice x2 y.table.length k2, .slice x3 y.unread.length k3] 93, true⟩ :: ⟨b2, Ce [.slice (some ⟨bm, om, none⟩) p.ms.length c1, .slice a2 p.items.length c2, .slice (some ⟨bp, op, none⟩) p.passes.length c3] 33, true⟩ :: []) (I := fun k => k ≤ y.table.length ∧ (Plt.zf6 (m.caps.length : Int) [] y.table ↔ Plt.zf6 (m.caps.length : Int) ((y.table.take k).map Plt.Row.stop) (y.table.drop k))) (μ := fun k => y.table.length - k) (s0 := 0)
  · exact ⟨Nat.zero_le _, by simp⟩
  · exact fS_
  · exact hS_
  rintro k ⟨hk, hrows⟩
  by_cases hlt : k < y.table.length
  · obtain ⟨⟨es, et⟩, hx⟩ : ∃ s, y.table[k]? = some s := ⟨_, List.getElem?_eq_getElem hlt⟩
    obtain ⟨b, off, cc, e, fz, rfl, hkk, hpt⟩ := hop5 (by omega)
    have g1 : ∀ j u, ([.int .i64 es, .int .i64 et] : List Value)[j]? = some u → cc[off + k * 2 + j]? = some u := hpt.get hx
    rw [Plt.ys3 hx] at hrows
    dsimp only at hrows
    by_cases hin : 0 ≤ et ∧ et < (m.caps.length : Int)
    case neg =>
      rw [zc2 (fun g => hin (hrows.1 (e0.1 g).2).1.2)]
      as_aux_lemma =>
        repeat' (first | (apply v8; exact rfl; exact dT_) | ((first | apply w9 | apply y8 | apply x8 | apply p4); exact rfl; exact rfl) | (apply w7; first | refine u9 (h := ?_) | refine y9 (h := ?_) | refine w8 (h := ?_) | refine q6 (h := ?_) | refine q0 (h := ?_)) | ((first | apply p3 | apply zc8 | apply o8 | apply d9 | apply l0 | apply l8); exact rfl; exact rfl; exact rfl) | (apply o9; infer_instance; exact rfl; exact rfl) | ((first | apply s9 | apply x9 | apply z8 | apply s7 | apply s8 | apply w4 | apply z9 | apply w5)) | (apply v8; exact rfl; exact tT_) | ((first | apply w6 | apply z6 | apply z0 | apply p5 | apply y0 | apply z7)) | ((apply p6 (id := 8) []); kernel_rfl; kernel_rfl) | (apply za6; try simp only [za9, List.cons_append, List.nil_append]) | ((first | apply i9 | apply n9 | apply m5); exact rfl; exact rfl) | ((first | apply zb4); exact rfl; exact rfl) | (apply m0; first | refine k8 (h := ?_) | refine p7 (h := ?_) | refine m6 (h := ?_) | refine d8 (h := ?_) | refine d7 (h := ?_)) | ((first | apply ze6 | apply zh4 | apply zm1 | apply zi4 | apply zr1); exact rfl; exact rfl; exact rfl) | (apply zm8; exact rfl; exact tT_; exact rfl; exact rfl) | (apply zh9; exact rfl; exact fF_; exact rfl; exact rfl) | (apply zr9; first | refine yb9 (h := ?_)) | (apply zc3; infer_instance; infer_instance; exact rfl; exact rfl; (first | exact rfl | omega); exact rfl; (first | assumption | omega | decide)) | ((first | apply zt3); exact rfl; exact gG_) | (apply zv7; exact rfl; exact gG_; exact rfl) | (apply zx2; exact rfl; intro hcond; rotate_left; intro hcond; rotate_left))
        all_goals first
          | (exfalso; omega)
          | (apply p8; apply zb0 Try.results34; exact rV_; intro w' hw; exact ⟨rfl, hw.below (by simp)⟩)
    as_aux_lemma =>
      repeat' (first | (apply v8; exact rfl; exact dT_) | (apply v9; exact rfl; exact dF_) | ((first | apply w9 | apply y8 | apply x8 | apply p4); exact rfl; exact rfl) | (apply w7; first | refine u9 (h := ?_) | refine y9 (h := ?_) | refine w8 (h := ?_) | refine q6 (h := ?_) | refine q0 (h := ?_)) | ((first | apply p3 | apply zc8 | apply o8 | apply d9 | apply l0 | apply l8); exact rfl; exact rfl; exact rfl) | (apply o9; infer_instance; exact rfl; exact rfl) | ((first | apply s9 | apply x9 | apply z8 | apply s7 | apply s8 | apply w4 | apply z9 | apply w5)) | ((first | apply w6 | apply z6 | apply z0 | apply p5 | apply y0 | apply z7)) | ((apply p6 (id := 8) []); kernel_rfl; kernel_rfl) | (apply za6; try simp only [za9, List.cons_append, List.nil_append]) | ((first | apply i9 | apply n9 | apply m5); exact rfl; exact rfl) | ((first | apply zb4); exact rfl; exact rfl) | (apply m0; first | refine k8 (h := ?_) | refine p7 (h := ?_) | refine m6 (h := ?_) | refine d8 (h := ?_) | refine d7 (h := ?_)) | ((first | apply ze6 | apply zh4 | apply zm1 | apply zi4 | apply zr1); exact rfl; exact rfl; exact rfl) | (apply zh9; exact rfl; exact fF_; exact rfl; exact rfl) | (apply zr9; first | refine yb9 (h := ?_)) | (apply zc3; infer_instance; infer_instance; exact rfl; exact rfl; (first | exact rfl | omega); exact rfl; (first | assumption | omega | decide)) | ((first | apply zt3); exact rfl; exact gG_))
      apply j9 (σ := Nat) (Fs := fun n => [(8, .int .i64 n), (7, .int .i64 k), (6, .int .i64 mk), (5, ptr b5), (2, ptr b2), (1, .int .i64 i)]) (Ls := fun _ => ⟨b5, Ce [.int .i64 y.id, .int .i64 y.mach, .int .i64 y.rel, .slice x1 y.src.length k1, .slice (some ⟨b, off, none⟩) y.table.length k2, .slice x3 y.unread.length k3] 93, true⟩ :: ⟨b2, Ce [.slice (some ⟨bm, om, none⟩) p.ms.length c1, .slice a2 p.items.length c2, .slice (some ⟨bp, op, none⟩) p.passes.length c3] 33, true⟩ :: []) (I := fun n => n ≤ k ∧ ∀ x ∈ ((y.table.take k).map Plt.Row.stop).take n, x ≠ es) (μ := fun n => k - n) (s0 := 0)
      · exact ⟨Nat.zero_le _, by simp⟩
      · exact fS_
      · exact hS_
      rintro n ⟨hn, hne⟩
      by_cases hnk : n < k
      · obtain ⟨⟨es', et'⟩, hx'⟩ : ∃ s, y.table[n]? = some s := ⟨_, List.getElem?_eq_getElem (by omega)⟩
        have g2 : ∀ j u, ([.int .i64 es', .int .i64 et'] : List Value)[j]? = some u → cc[off + n * 2 + j]? = some u := hpt.get hx'
        have hmn : ((y.table.take k).map Plt.Row.stop)[n]? = some es' := by rw [List.getElem?_map, List.getElem?_take_of_lt hnk, hx']; rfl
        by_cases he : es' = es
        · rw [zc2 (fun g => (hrows.1 (e0.1 g).2).1.1 (by rw [← he]; exact List.mem_of_getElem? hmn))]
          as_aux_lemma =>
            repeat' (first | (apply v8; exact rfl; exact dT_) | ((first | apply w9 | apply y8 | apply x8 | apply p4); exact rfl; exact rfl) | ((first | apply p3 | apply zc8 | apply o8 | apply d9 | apply l0 | apply l8); exact rfl; exact rfl; exact rfl) | ((first | apply s9 | apply x9 | apply z8 | apply s7 | apply s8 | apply w4 | apply z9 | apply w5)) | ((first | apply w6 | apply z6 | apply z0 | apply p5 | apply y0 | apply z7)) | ((apply p6 (id := 13) []); kernel_rfl; kernel_rfl) | (apply za6; try simp only [za9, List.cons_append, List.nil_append]) | ((first | apply i9 | apply n9 | apply m5); exact rfl; exact rfl) | ((first | apply zb4); exact rfl; exact rfl) | (apply m0; first | refine k8 (h := ?_) | refine p7 (h := ?_) | refine m6 (h := ?_) | refine d8 (h := ?_) | refine d7 (h := ?_)) | ((first | apply ze6 | apply zh4 | apply zm1 | apply zi4 | apply zr1); exact rfl; exact rfl; exact rfl) | (apply zc3; infer_instance; infer_instance; exact rfl; exact rfl; (first | exact rfl | omega); exact rfl; (first | assumption | omega | decide)))
            apply p8; apply zb0 Try.results34; exact rV_; intro w' hw
            exact ⟨rfl, hw.below (by simp)⟩
        · as_aux_lemma =>
            repeat' (first | (apply v8; exact rfl; exact dT_) | (apply v9; exact rfl; exact dF_) | ((first | apply w9 | apply y8 | apply x8 | apply p4); exact rfl; exact rfl) | ((first | apply p3 | apply zc8 | apply o8 | apply d9 | apply l0 | apply l8); exact rfl; exact rfl; exact rfl) | (apply j0; exact rfl; exact rfl; exact rfl; (constructor <;> omega)) | ((first | apply s9 | apply x9 | apply z8 | apply s7 | apply s8 | apply w4 | apply z9 | apply w5)) | ((first | apply w6 | apply z6 | apply z0 | apply p5 | apply y0 | apply z7)) | ((apply p6 (id := 13) []); kernel_rfl; kernel_rfl) | (apply za6; try simp only [za9, List.cons_append, List.nil_append]) | ((first | apply i9 | apply n9 | apply m5); exact rfl; exact rfl) | ((first | apply zb4); exact rfl; exact rfl) | (apply m0; first | refine k8 (h := ?_) | refine p7 (h := ?_) | refine m6 (h := ?_) | refine d8 (h := ?_) | refine d7 (h := ?_)) | ((first | apply ze6 | apply zh4 | apply zm1 | apply zi4 | apply zr1); exact rfl; exact rfl; exact rfl) | (apply zc3; infer_instance; infer_instance; exact rfl; exact rfl; (first | exact rfl | omega); exact rfl; (first | assumption | omega | decide)))
            refine o0 (n + 1) ⟨by omega, zh0 hmn hne he⟩ (by omega) ?_ ?_
            · exact fS_
            · exact hS_
      obtain rfl : n = k := by omega
      rw [List.take_of_length_le (by rw [List.length_map, List.length_take]; omega)] at hne
      repeat' (first | (apply v9; exact rfl; exact dF_) | ((first | apply w9 | apply y8 | apply x8 | apply p4); exact rfl; exact rfl) | ((first | apply p3 | apply zc8 | apply o8 | apply d9 | apply l0 | apply l8); exact rfl; exact rfl; exact rfl) | (apply j0; exact rfl; exact rfl; exact rfl; (constructor <;> omega)) | ((first | apply s9 | apply x9 | apply z8 | apply s7 | apply s8 | apply w4 | apply z9 | apply w5)) | ((first | apply w6 | apply z6 | apply z0 | apply p5 | apply y0 | apply z7)))
      refine o0 (n + 1) ⟨by omega, hrows.trans ⟨fun g => g.2, fun g => ⟨⟨fun hm => hne _ hm rfl, hin⟩, g⟩⟩⟩ (by omega) ?_ ?_
      · exact fS_
      · exact hS_
  rw [List.drop_of_length_le (by omega)] at hrows
  have hrok : Plt.zf6 (m.caps.length : Int) [] y.table := hrows.2 (by simp [Plt.zf6])
  repeat' (first | (apply v9; exact rfl; exact dF_) | ((first | apply w9 | apply y8 | apply x8 | apply p4); exact rfl; exact rfl) | (apply w7; first | refine u9 (h := ?_) | refine y9 (h := ?_) | refine w8 (h := ?_) | refine q6 (h := ?_) | refine q0 (h := ?_)) | ((first | apply p3 | apply zc8 | apply o8 | apply d9 | apply l0 | apply l8); exact rfl; exact rfl; exact rfl) | (apply o9; infer_instance; exact rfl; exact rfl) | ((first | apply s9 | apply x9 | apply z8 | apply s7 | apply s8 | apply w4 | apply z9 | apply w5)) | ((first | apply w6 | apply z6 | apply z0 | apply p5 | apply y0 | apply z7)))
  apply j9 (σ := Nat) (Fs := fun k => [(9, .int .i64 k), (6, .int .i64 mk), (5, ptr b5), (2, ptr b2), (1, .int .i64 i)]) (Ls := fun _ => ⟨b5, Ce [.int .i64 y.id, .int .i64 y.mach, .int .i64 y.rel, .slice x1 y.src.length k1, .slice x2 y.table.length k2, .slice x3 y.unread.length k3] 93, true⟩ :: ⟨b2, Ce [.slice (some ⟨bm, om, none⟩) p.ms.length c1, .slice a2 p.items.length c2, .slice (some ⟨bp, op, none⟩) p.passes.length c3] 33, true⟩ :: []) (I := fun k => k ≤ y.src.length ∧ (Plt.zg1 (psF (Plt.zf5 p.ms) (p.passes.take i)) (tkF (p.passes.take i)) y.src ↔ Plt.zg1 (psF (Plt.zf5 p.ms) (p.passes.take i)) ((tkF (p.passes.take i)) ++ y.src.take k) (y.src.drop k))) (μ := fun k => y.src.length - k) (s0 := 0)
  · exact ⟨Nat.zero_le _, by simp⟩
  · exact fS_
  · exact hS_
  rintro k ⟨hk, hsrcs⟩
  by_cases hlt : k < y.src.length
  · obtain ⟨⟨sp, sn⟩, hx⟩ : ∃ s, y.src[k]? = some s := ⟨_, List.getElem?_eq_getElem hlt⟩
    obtain ⟨b, off, cc, e, fz, rfl, hkk, hpt⟩ := hop4 (by omega)
    have g1 : ∀ j u, ([.int .i64 sp, .int .i64 sn] : List Value)[j]? = some u → cc[off + k * 2 + j]? = some u := hpt.get hx
    rw [Plt.ys8 hx] at hsrcs
    obtain ⟨zf, hzf⟩ : ∃ z, Plt.zj4 sp (p.passes.map Plt.za3.id) = z := ⟨_, rfl⟩
    have hzl := Plt.zG0 sp (p.passes.map Plt.za3.id)
    rw [hzf, List.length_map] at hzl
    by_cases h0 : sp = 0
    · subst h0
      have hsk : Plt.zi9 (psF (Plt.zf5 p.ms) (p.passes.take i)) (0, sn) ↔ 1 ≤ sn ∧ sn ≤ 100 := by unfold Plt.zi9; rw [if_pos rfl]
      by_cases hn1 : 1 ≤ sn ∧ sn ≤ 100
      case neg =>
        rw [zc2 (fun g => hn1 (hsk.1 (hsrcs.1 (e0.1 g).1).1.1))]
        as_aux_lemma =>
          repeat' (first | (apply v8; exact rfl; exact dT_) | (apply n8; exact rfl; exact dT_; exact rfl; exact rfl) | (apply p9; exact rfl; exact dF_; exact rfl; exact rfl) | (apply k9; exact rfl; exact dT_) | (apply k9; exact rfl; exact dF_) | (apply za5; exact rfl; exact dT_; exact rfl) | ((first | apply w9 | apply y8 | apply x8 | apply p4); exact rfl; exact rfl) | (apply w7; first | refine u9 (h := ?_) | refine y9 (h := ?_) | refine w8 (h := ?_) | refine q6 (h := ?_) | refine q0 (h := ?_)) | ((first | apply p3 | apply zc8 | apply o8 | apply d9 | apply l0 | apply l8); exact rfl; exact rfl; exact rfl) | (apply o7; exact rfl; intro _) | (apply q7; first | refine q8 (h := ?_) | refine q9 (h := ?_)) | (apply o9; infer_instance; exact rfl; exact rfl) | (apply m8; infer_instance; infer_instance; exact rfl; exact rfl; (first | exact rfl | omega); exact rfl; (first | assumption | omega | decide)) | ((first | apply s9 | apply x9 | apply z8 | apply s7 | apply s8 | apply w4 | apply z9 | apply w5)) | (apply v8; exact rfl; exact tT_) | ((first | apply w6 | apply z6 | apply z0 | apply p5 | apply y0 | apply z7)) | (apply zd3; exact rfl; intro hcond; rotate_left; intro hcond; rotate_left))
          all_goals first
            | (exfalso; omega)
            | (apply p8; apply zb0 Try.results34; exact rV_; intro w' hw; exact ⟨rfl, hw.below (by simp)⟩)
      have hsok := hsk.2 hn1
      as_aux_lemma =>
        repeat' (first | (apply v8; exact rfl; exact dT_) | (apply v9; exact rfl; exact dF_) | (apply n8; exact rfl; exact dT_; exact rfl; exact rfl) | (apply p9; exact rfl; exact dF_; exact rfl; exact rfl) | (apply k9; exact rfl; exact dT_) | (apply k9; exact rfl; exact dF_) | ((first | apply w9 | apply y8 | apply x8 | apply p4); exact rfl; exact rfl) | (apply w7; first | refine u9 (h := ?_) | refine y9 (h := ?_) | refine w8 (h := ?_) | refine q6 (h := ?_) | refine q0 (h := ?_)) | ((first | apply p3 | apply zc8 | apply o8 | apply d9 | apply l0 | apply l8); exact rfl; exact rfl; exact rfl) | (apply o7; exact rfl; intro _) | (apply q7; first | refine q8 (h := ?_) | refine q9 (h := ?_)) | (apply o9; infer_instance; exact rfl; exact rfl) | (apply m8; infer_instance; infer_instance; exact rfl; exact rfl; (first | exact rfl | omega); exact rfl; (first | assumption | omega | decide)) | ((first | apply s9 | apply x9 | apply z8 | apply s7 | apply s8 | apply w4 | apply z9 | apply w5)) | ((first | apply w6 | apply z6 | apply z0 | apply p5 | apply y0 | apply z7)))
        rename_i b10
        apply j9 (σ := Nat) (Fs := fun j => [(12, .int .i64 j), (10, ptr b10), (9, .int .i64 k), (6, .int .i64 mk), (5, ptr b5), (2, ptr b2), (1, .int .i64 i)]) (Ls := fun _ => ⟨b10, Ce [.int .i64 0, .int .i64 sn] 96, true⟩ :: ⟨b5, Ce [.int .i64 y.id, .int .i64 y.mach, .int .i64 y.rel, .slice (some ⟨b, off, none⟩) y.src.length k1, .slice x2 y.table.length k2, .slice x3 y.unread.length k3] 93, true⟩ :: ⟨b2, Ce [.slice (some ⟨bm, om, none⟩) p.ms.length c1, .slice a2 p.items.length c2, .slice (some ⟨bp, op, none⟩) p.passes.length c3] 33, true⟩ :: []) (I := fun j => j ≤ i + 1 ∧ (∀ (j' : Nat) (z : Plt.za3), j' < j → j' < i → p.passes[j']? = some z → ((0 : Int), sn) ∉ z.src) ∧ (j = i + 1 → ((0 : Int), sn) ∉ y.src.take k)) (μ := fun j => i + 1 - j) (s0 := 0)
        · exact ⟨Nat.zero_le _, fun j' z hj' => by omega, fun h => by omega⟩
        · exact fS_
        · exact hS_
        rintro j ⟨hj, hjs, hjl⟩
        by_cases hji : j < i
        · obtain ⟨z, hz⟩ : ∃ z, p.passes[j]? = some z := ⟨_, List.getElem?_eq_getElem (by omega)⟩
          obtain ⟨dz, hdz⟩ : ∃ z, ys[j]? = some z := ⟨_, List.getElem?_eq_getElem (by omega)⟩
          have hzV := hpass j dz z hdz hz
          obtain ⟨s1, o1, s2, o2, s3, o3, rfl⟩ := hzV.eqs
          have gz : ∀ jj u, ([.int .i64 z.id, .int .i64 z.mach, .int .i64 z.rel, .slice s1 z.src.length o1, .slice s2 z.table.length o2, .slice s3 z.unread.length o3] : List Value)[jj]? = some u → ccp[op + j * 6 + jj]? = some u := hpp.get hdz
          have hzs := hzV.src
          dsimp only [sdV] at hzs
          obtain ⟨_, _, ez, hcz, hopz⟩ := hzs.open
          cases ez
          as_aux_lemma =>
            repeat' (first | (apply v8; exact rfl; exact dT_) | ((first | apply w9 | apply y8 | apply x8 | apply p4); exact rfl; exact rfl) | ((first | apply p3 | apply zc8 | apply o8 | apply d9 | apply l0 | apply l8); exact rfl; exact rfl; exact rfl) | ((first | apply s9 | apply x9 | apply z8 | apply s7 | apply s8 | apply w4 | apply z9 | apply w5)) | ((first | apply w6 | apply z6 | apply z0 | apply p5 | apply y0 | apply z7)))
            apply j9 (σ := Nat) (Fs := fun n => [(13, .int .i64 n), (12, .int .i64 j), (10, ptr b10), (9, .int .i64 k), (6, .int .i64 mk), (5, ptr b5), (2, ptr b2), (1, .int .i64 i)]) (Ls := fun _ => ⟨b10, Ce [.int .i64 0, .int .i64 sn] 96, true⟩ :: ⟨b5, Ce [.int .i64 y.id, .int .i64 y.mach, .int .i64 y.rel, .slice (some ⟨b, off, none⟩) y.src.length k1, .slice x2 y.table.length k2, .slice x3 y.unread.length k3] 93, true⟩ :: ⟨b2, Ce [.slice (some ⟨bm, om, none⟩) p.ms.length c1, .slice a2 p.items.length c2, .slice (some ⟨bp, op, none⟩) p.passes.length c3] 33, true⟩ :: []) (I := fun n => n ≤ z.src.length ∧ ∀ x ∈ z.src.take n, x ≠ (((0 : Int), sn) : Int × Int)) (μ := fun n => z.src.length - n) (s0 := 0)
            · exact ⟨Nat.zero_le _, by simp⟩
            · exact fS_
            · exact hS_
            rintro n ⟨hn, hne⟩
            by_cases hnl : n < z.src.length
            · obtain ⟨⟨tp, tn⟩, ht⟩ : ∃ s, z.src[n]? = some s := ⟨_, List.getElem?_eq_getElem hnl⟩
              obtain ⟨bz, oz, ccz, ez, fzz, rfl, hkz, hpz⟩ := hopz (by omega)
              have gt : ∀ jj u, ([.int .i64 tp, .int .i64 tn] : List Value)[jj]? = some u → ccz[oz + n * 2 + jj]? = some u := hpz.get ht
              by_cases he : tp = 0 ∧ tn = sn
              · rw [zc2 (fun g => (hsrcs.1 (e0.1 g).1).1.2 ((Plt.zs5 hy).2 (.inl ⟨j, hji, z, hz, by have := List.mem_of_getElem? ht; rw [he.1, he.2] at this; exact this⟩)))]
                as_aux_lemma =>
                  repeat' (first | (apply n8; exact rfl; exact dT_; exact rfl; exact rfl) | (apply k9; exact rfl; exact dT_) | (apply za5; exact rfl; exact dT_; exact rfl) | ((first | apply w9 | apply y8 | apply x8 | apply p4); exact rfl; exact rfl) | ((first | apply za7); exact rfl; exact rfl) | (apply w7; first | refine u9 (h := ?_) | refine y9 (h := ?_) | refine w8 (h := ?_) | refine q6 (h := ?_) | refine q0 (h := ?_)) | ((first | apply p3 | apply zc8 | apply o8 | apply d9 | apply l0 | apply l8); exact rfl; exact rfl; exact rfl) | (apply o9; infer_instance; exact rfl; exact rfl) | (apply m8; infer_instance; infer_instance; exact rfl; exact rfl; (first | exact rfl | omega); exact rfl; (first | assumption | omega | decide)) | ((first | apply s9 | apply x9 | apply z8 | apply s7 | apply s8 | apply w4 | apply z9 | apply w5)) | (apply v8; exact rfl; exact tT_) | ((first | apply w6 | apply z6 | apply z0 | apply p5 | apply y0 | apply z7)) | ((apply p6 (id := 31) []); kernel_rfl; kernel_rfl) | (apply za6; try simp only [za9, List.cons_append, List.nil_append]) | ((first | apply i9 | apply n9 | apply m5); exact rfl; exact rfl) | ((first | apply zb4); exact rfl; exact rfl) | (apply m0; first | refine k8 (h := ?_) | refine p7 (h := ?_) | refine m6 (h := ?_) | refine d8 (h := ?_) | refine d7 (h := ?_)) | (apply zh2; refine zr4 (h := ?_)) | (apply zc3; infer_instance; infer_instance; exact rfl; exact rfl; (first | exact rfl | omega); exact rfl; (first | assumption | omega | decide)))
                  apply p8; apply zb0 Try.results34; exact rV_; intro w' hw
                  exact ⟨rfl, hw.below (by simp)⟩
              · as_aux_lemma =>
                  repeat' (first | (apply n8; exact rfl; exact dT_; exact rfl; exact rfl) | (apply k9; exact rfl; exact dT_) | (apply za5; exact rfl; exact dT_; exact rfl) | ((first | apply w9 | apply y8 | apply x8 | apply p4); exact rfl; exact rfl) | ((first | apply za7); exact rfl; exact rfl) | (apply w7; first | refine u9 (h := ?_) | refine y9 (h := ?_) | refine w8 (h := ?_) | refine q6 (h := ?_) | refine q0 (h := ?_)) | ((first | apply p3 | apply zc8 | apply o8 | apply d9 | apply l0 | apply l8); exact rfl; exact rfl; exact rfl) | (apply j0; exact rfl; exact rfl; exact rfl; (constructor <;> omega)) | (apply o9; infer_instance; exact rfl; exact rfl) | (apply m8; infer_instance; infer_instance; exact rfl; exact rfl; (first | exact rfl | omega); exact rfl; (first | assumption | omega | decide)) | ((first | apply s9 | apply x9 | apply z8 | apply s7 | apply s8 | apply w4 | apply z9 | apply w5)) | (apply v8; exact rfl; exact tT_) | (apply v9; exact rfl; exact fF_) | ((first | apply w6 | apply z6 | apply z0 | apply p5 | apply y0 | apply z7)) | ((apply p6 (id := 31) []); kernel_rfl; kernel_rfl) | (apply za6; try simp only [za9, List.cons_append, List.nil_append]) | ((first | apply i9 | apply n9 | apply m5); exact rfl; exact rfl) | ((first | apply zb4); exact rfl; exact rfl) | (apply m0; first | refine k8 (h := ?_) | refine p7 (h := ?_) | refine m6 (h := ?_) | refine d8 (h := ?_) | refine d7 (h := ?_)) | (apply zh2; refine zr4 (h := ?_)) | (apply zc3; infer_instance; infer_instance; exact rfl; exact rfl; (first | exact rfl | omega); exact rfl; (first | assumption | omega | decide)))
                  refine o0 (n + 1) ⟨by omega, zh0 ht hne (fun g => he ⟨congrArg Prod.fst g, congrArg Prod.snd g⟩)⟩ (by omega) ?_ ?_
                  · exact fS_
                  · exact hS_
            rw [List.take_of_length_le (by omega)] at hne
            repeat' (first | (apply p9; exact rfl; exact dF_; exact rfl; exact rfl) | (apply za5; exact rfl; exact dF_; exact rfl) | ((first | apply w9 | apply y8 | apply x8 | apply p4); exact rfl; exact rfl) | ((first | apply za7); exact rfl; exact rfl) | (apply w7; first | refine u9 (h := ?_) | refine y9 (h := ?_) | refine w8 (h := ?_) | refine q6 (h := ?_) | refine q0 (h := ?_)) | ((first | apply p3 | apply zc8 | apply o8 | apply d9 | apply l0 | apply l8); exact rfl; exact rfl; exact rfl) | (apply j0; exact rfl; exact rfl; exact rfl; (constructor <;> omega)) | (apply o9; infer_instance; exact rfl; exact rfl) | (apply m8; infer_instance; infer_instance; exact rfl; exact rfl; (first | exact rfl | omega); exact rfl; (first | assumption | omega | decide)) | (apply zo4; exact rfl; exact rfl) | ((first | apply s9 | apply x9 | apply z8 | apply s7 | apply s8 | apply w4 | apply z9 | apply w5)) | (apply v9; exact rfl; exact fF_) | ((first | apply w6 | apply z6 | apply z0 | apply p5 | apply y0 | apply z7)))
            refine o0 (j + 1) ⟨by omega, fun j' z' hj' hj2 hz' => ?_, fun g => by omega⟩ (by omega) ?_ ?_
            · by_cases hjj : j' = j
              · subst hjj
                rw [hz] at hz'
                cases hz'
                exact fun hm => hne _ hm rfl
              · exact hjs j' z' (by omega) hj2 hz'
            · exact fS_
            · exact hS_
        by_cases hjl2 : j = i
        · subst hjl2
          as_aux_lemma =>
            repeat' (first | (apply v8; exact rfl; exact dT_) | ((first | apply w9 | apply y8 | apply x8 | apply p4); exact rfl; exact rfl) | ((first | apply p3 | apply zc8 | apply o8 | apply d9 | apply l0 | apply l8); exact rfl; exact rfl; exact rfl) | ((first | apply s9 | apply x9 | apply z8 | apply s7 | apply s8 | apply w4 | apply z9 | apply w5)) | ((first | apply w6 | apply z6 | apply z0 | apply p5 | apply y0 | apply z7)))
            apply j9 (σ := Nat) (Fs := fun n => [(13, .int .i64 n), (12, .int .i64 j), (10, ptr b10), (9, .int .i64 k), (6, .int .i64 mk), (5, ptr b5), (2, ptr b2), (1, .int .i64 j)]) (Ls := fun _ => ⟨b10, Ce [.int .i64 0, .int .i64 sn] 96, true⟩ :: ⟨b5, Ce [.int .i64 y.id, .int .i64 y.mach, .int .i64 y.rel, .slice (some ⟨b, off, none⟩) y.src.length k1, .slice x2 y.table.length k2, .slice x3 y.unread.length k3] 93, true⟩ :: ⟨b2, Ce [.slice (some ⟨bm, om, none⟩) p.ms.length c1, .slice a2 p.items.length c2, .slice (some ⟨bp, op, none⟩) p.passes.length c3] 33, true⟩ :: []) (I := fun n => n ≤ k ∧ ∀ x ∈ (y.src.take k).take n, x ≠ (((0 : Int), sn) : Int × Int)) (μ := fun n => k - n) (s0 := 0)
            · exact ⟨Nat.zero_le _, by simp⟩
            · exact fS_
            · exact hS_
            rintro n ⟨hn, hne⟩
            by_cases hnl : n < k
            · obtain ⟨⟨tp, tn⟩, ht⟩ : ∃ s, y.src[n]? = some s := ⟨_, List.getElem?_eq_getElem (by omega)⟩
              have ht2 : (y.src.take k)[n]? = some (tp, tn) := by rw [List.getElem?_take_of_lt hnl]; exact ht
              have gt : ∀ jj u, ([.int .i64 tp, .int .i64 tn] : List Value)[jj]? = some u → cc[off + n * 2 + jj]? = some u := hpt.get ht
              by_cases he : tp = 0 ∧ tn = sn
              · rw [zc2 (fun g => (hsrcs.1 (e0.1 g).1).1.2 ((Plt.zs5 hy).2 (.inr (by have := List.mem_of_getElem? ht2; rw [he.1, he.2] at this; exact this))))]
                as_aux_lemma =>
                  repeat' (first | (apply v8; exact rfl; exact dT_) | (apply n8; exact rfl; exact dT_; exact rfl; exact rfl) | (apply p9; exact rfl; exact dF_; exact rfl; exact rfl) | (apply k9; exact rfl; exact dT_) | (apply k9; exact rfl; exact dF_) | ((first | apply w9 | apply y8 | apply x8 | apply p4); exact rfl; exact rfl) | ((first | apply za7); exact rfl; exact rfl) | (apply w7; first | refine u9 (h := ?_) | refine y9 (h := ?_) | refine w8 (h := ?_) | refine q6 (h := ?_) | refine q0 (h := ?_)) | ((first | apply p3 | apply zc8 | apply o8 | apply d9 | apply l0 | apply l8); exact rfl; exact rfl; exact rfl) | (apply o9; infer_instance; exact rfl; exact rfl) | (apply m8; infer_instance; infer_instance; exact rfl; exact rfl; (first | exact rfl | omega); exact rfl; (first | assumption | omega | decide)) | ((first | apply s9 | apply x9 | apply z8 | apply s7 | apply s8 | apply w4 | apply z9 | apply w5)) | (apply v8; exact rfl; exact tT_) | ((first | apply w6 | apply z6 | apply z0 | apply p5 | apply y0 | apply z7)) | ((apply p6 (id := 31) []); kernel_rfl; kernel_rfl) | (apply za6; try simp only [za9, List.cons_append, List.nil_append]) | ((first | apply i9 | apply n9 | apply m5); exact rfl; exact rfl) | ((first | apply zb4); exact rfl; exact rfl) | (apply m0; first | refine k8 (h := ?_) | refine p7 (h := ?_) | refine m6 (h := ?_) | refine d8 (h := ?_) | refine d7 (h := ?_)) | (apply zh2; refine zr4 (h := ?_)) | (apply zc3; infer_instance; infer_instance; exact rfl; exact rfl; (first | exact rfl | omega); exact rfl; (first | assumption | omega | decide)))
                  apply p8; apply zb0 Try.results34; exact rV_; intro w' hw
                  exact ⟨rfl, hw.below (by simp)⟩
              · as_aux_lemma =>
                  repeat' (first | (apply v8; exact rfl; exact dT_) | (apply n8; exact rfl; exact dT_; exact rfl; exact rfl) | (apply p9; exact rfl; exact dF_; exact rfl; exact rfl) | (apply k9; exact rfl; exact dT_) | (apply k9; exact rfl; exact dF_) | ((first | apply w9 | apply y8 | apply x8 | apply p4); exact rfl; exact rfl) | ((first | apply za7); exact rfl; exact rfl) | (apply w7; first | refine u9 (h := ?_) | refine y9 (h := ?_) | refine w8 (h := ?_) | refine q6 (h := ?_) | refine q0 (h := ?_)) | ((first | apply p3 | apply zc8 | apply o8 | apply d9 | apply l0 | apply l8); exact rfl; exact rfl; exact rfl) | (apply j0; exact rfl; exact rfl; exact rfl; (constructor <;> omega)) | (apply o9; infer_instance; exact rfl; exact rfl) | (apply m8; infer_instance; infer_instance; exact rfl; exact rfl; (first | exact rfl | omega); exact rfl; (first | assumption | omega | decide)) | ((first | apply s9 | apply x9 | apply z8 | apply s7 | apply s8 | apply w4 | apply z9 | apply w5)) | (apply v9; exact rfl; exact fF_) | ((first | apply w6 | apply z6 | apply z0 | apply p5 | apply y0 | apply z7)) | ((apply p6 (id := 31) []); kernel_rfl; kernel_rfl) | (apply za6; try simp only [za9, List.cons_append, List.nil_append]) | ((first | apply i9 | apply n9 | apply m5); exact rfl; exact rfl) | ((first | apply zb4); exact rfl; exact rfl) | (apply m0; first | refine k8 (h := ?_) | refine p7 (h := ?_) | refine m6 (h := ?_) | refine d8 (h := ?_) | refine d7 (h := ?_)) | (apply zh2; refine zr4 (h := ?_)) | (apply zc3; infer_instance; infer_instance; exact rfl; exact rfl; (first | exact rfl | omega); exact rfl; (first | assumption | omega | decide)))
                  refine o0 (n + 1) ⟨by omega, zh0 ht2 hne (fun g => he ⟨congrArg Prod.fst g, congrArg Prod.snd g⟩)⟩ (by omega) ?_ ?_
                  · exact fS_
                  · exact hS_
            obtain rfl : n = k := by omega
            rw [List.take_of_length_le (by rw [List.length_take]; omega)] at hne
            repeat' (first | (apply v9; exact rfl; exact dF_) | (apply n8; exact rfl; exact dT_; exact rfl; exact rfl) | (apply p9; exact rfl; exact dF_; exact rfl; exact rfl) | (apply k9; exact rfl; exact dT_) | (apply k9; exact rfl; exact dF_) | ((first | apply w9 | apply y8 | apply x8 | apply p4); exact rfl; exact rfl) | ((first | apply za7); exact rfl; exact rfl) | (apply w7; first | refine u9 (h := ?_) | refine y9 (h := ?_) | refine w8 (h := ?_) | refine q6 (h := ?_) | refine q0 (h := ?_)) | ((first | apply p3 | apply zc8 | apply o8 | apply d9 | apply l0 | apply l8); exact rfl; exact rfl; exact rfl) | (apply j0; exact rfl; exact rfl; exact rfl; (constructor <;> omega)) | (apply o9; infer_instance; exact rfl; exact rfl) | (apply m8; infer_instance; infer_instance; exact rfl; exact rfl; (first | exact rfl | omega); exact rfl; (first | assumption | omega | decide)) | ((first | apply s9 | apply x9 | apply z8 | apply s7 | apply s8 | apply w4 | apply z9 | apply w5)) | ((first | apply w6 | apply z6 | apply z0 | apply p5 | apply y0 | apply z7)))
            refine o0 (j + 1) ⟨by omega, fun j' z' hj' hj2 hz' => hjs j' z' hj2 hj2 hz', fun _ hm => hne _ hm rfl⟩ (by omega) ?_ ?_
            · exact fS_
            · exact hS_
        obtain rfl : j = i + 1 := by omega
        have hnt : ((0 : Int), sn) ∉ (tkF (p.passes.take i)) ++ y.src.take k := fun hm => by
          rcases (Plt.zs5 hy).1 hm with ⟨j', hj', z, hz, hs⟩ | hs
          · exact hjs j' z (by omega) hj' hz hs
          · exact hjl rfl hs
        repeat' (first | (apply v9; exact rfl; exact dF_) | ((first | apply w9 | apply y8 | apply x8 | apply p4); exact rfl; exact rfl) | ((first | apply p3 | apply zc8 | apply o8 | apply d9 | apply l0 | apply l8); exact rfl; exact rfl; exact rfl) | (apply j0; exact rfl; exact rfl; exact rfl; (constructor <;> omega)) | ((first | apply s9 | apply x9 | apply z8 | apply s7 | apply s8 | apply w4 | apply z9 | apply w5)) | ((first | apply w6 | apply z6 | apply z0 | apply p5 | apply y0 | apply z7)))
        refine o0 (k + 1) ⟨by omega, hsrcs.trans ⟨fun g => g.2, fun g => ⟨⟨hsok, hnt⟩, g⟩⟩⟩ (by omega) ?_ ?_
        · exact fS_
        · exact hS_
    · by_cases hzr2 : 0 ≤ zf ∧ zf < (i : Int)
      case neg =>
        have hno := Plt.yo4 (msl := Plt.zf5 p.ms) (l := p.passes) (x := sp) (i := i) (by rw [hzf]; omega)
        have hsk : ¬ Plt.zi9 (psF (Plt.zf5 p.ms) (p.passes.take i)) (sp, sn) := by unfold Plt.zi9; rw [if_neg h0]; dsimp only; rw [hno]; exact fun h => h
        rw [zc2 (fun g => hsk (hsrcs.1 (e0.1 g).1).1.1)]
        as_aux_lemma =>
          repeat' (first | (apply v8; exact rfl; exact dT_) | (apply p9; exact rfl; exact dF_; exact rfl; exact rfl) | (apply za5; exact rfl; exact dF_; exact rfl) | ((first | ((apply t8 (f := 49)); exact rfl) | ((apply t9 (f := 49)); exact rfl; kernel_rfl; exact rfl; exact sJ_)); exact eV_; exact (fun w hw => zj5 hzf w (hV.keep hw (by exact aO_)))) | ((first | apply w9 | apply y8 | apply x8 | apply p4); exact rfl; exact rfl) | (apply w7; first | refine u9 (h := ?_) | refine y9 (h := ?_) | refine w8 (h := ?_) | refine q6 (h := ?_) | refine q0 (h := ?_)) | ((first | apply p3 | apply zc8 | apply o8 | apply d9 | apply l0 | apply l8); exact rfl; exact rfl; exact rfl) | (apply o7; exact rfl; intro _) | (apply q7; first | refine q8 (h := ?_) | refine q9 (h := ?_)) | (apply o9; infer_instance; exact rfl; exact rfl) | (apply m8; infer_instance; infer_instance; exact rfl; exact rfl; (first | exact rfl | omega); exact rfl; (first | assumption | omega | decide)) | (apply zo4; exact rfl; exact rfl) | ((first | apply s9 | apply x9 | apply z8 | apply s7 | apply s8 | apply w4 | apply z9 | apply w5)) | (apply v8; exact rfl; exact tT_) | (apply v9; exact rfl; exact fF_) | ((first | apply w6 | apply z6 | apply z0 | apply p5 | apply y0 | apply z7)) | ((apply p6 (id := 23) []); kernel_rfl; kernel_rfl) | (apply za6; try simp only [za9, List.cons_append, List.nil_append]) | ((first | apply i9 | apply n9 | apply m5); exact rfl; exact rfl) | ((first | apply ze6 | apply zh4 | apply zm1 | apply zi4 | apply zr1); exact rfl; exact rfl; exact rfl) | (apply zm8; exact rfl; exact tT_; exact rfl; exact rfl) | (apply zh9; exact rfl; exact fF_; exact rfl; exact rfl) | ((first | apply zt3); exact rfl; exact gG_) | (apply zv7; exact rfl; exact gG_; exact rfl) | (apply zx2; exact rfl; intro hcond; rotate_left; intro hcond; rotate_left))
          all_goals first
            | (exfalso; omega)
            | (apply p8; apply zb0 Try.results34; exact rV_; intro w' hw; exact ⟨rfl, hw.below (by simp)⟩)
      obtain ⟨f, rfl⟩ := Int.eq_ofNat_of_zero_le hzr2.1
      have hfi : f < i := by omega
      obtain ⟨yf, hyf⟩ : ∃ z, p.passes[f]? = some z := ⟨_, List.getElem?_eq_getElem (by omega)⟩
      obtain ⟨df, hdf⟩ : ∃ z, ys[f]? = some z := ⟨_, List.getElem?_eq_getElem (by omega)⟩
      obtain ⟨w1, v1, w2, v2, w3, v3, rfl⟩ := (hpass f df yf hdf hyf).eqs
      have gf : ∀ j u, ([.int .i64 yf.id, .int .i64 yf.mach, .int .i64 yf.rel, .slice w1 yf.src.length v1, .slice w2 yf.table.length v2, .slice w3 yf.unread.length v3] : List Value)[j]? = some u → ccp[op + f * 6 + j]? = some u := hpp.get hdf
      obtain ⟨gi, hgi⟩ := Int.eq_ofNat_of_zero_le (hpre f yf hfi hyf)
      have hgr := Plt.zG0 yf.mach (p.ms.map Plt.zb6.id)
      rw [hgi, List.length_map] at hgr
      obtain ⟨mg, hmg⟩ : ∃ m, p.ms[gi]? = some m := ⟨_, List.getElem?_eq_getElem (by omega)⟩
      obtain ⟨dg, hdg⟩ : ∃ d, ds[gi]? = some d := ⟨_, List.getElem?_eq_getElem (by omega)⟩
      obtain ⟨r1, t1, r2, t2, rfl⟩ := (hmach gi dg mg hdg hmg).eqs
      have gg : ∀ j u, ([.int .i64 mg.id, .int .i64 mg.sweeps, .int .i64 mg.rate, .slice r1 mg.caps.length t1, .slice r2 mg.shifts.length t2] : List Value)[j]? = some u → ccm[om + gi * 5 + j]? = some u := hpm.get hdg
      have hgl : mg.caps.length ≤ 9223372036854775807 := by
        have := (hmach gi _ mg hdg hmg).caps
        obtain ⟨_, _, _, hq, _⟩ := this.open
        exact hq.2
      have hsk : Plt.zi9 (psF (Plt.zf5 p.ms) (p.passes.take i)) (sp, sn) ↔ 0 ≤ sn ∧ sn < (mg.caps.length : Int) := by
        unfold Plt.zi9
        rw [if_neg h0]
        dsimp only
        rw [(Plt.yo2 hzf hyf hfi).2, (Plt.zZ6 hgi hmg).2]
        rfl
      by_cases hn1 : 0 ≤ sn ∧ sn < (mg.caps.length : Int)
      case neg =>
        rw [zc2 (fun g => hn1 (hsk.1 (hsrcs.1 (e0.1 g).1).1.1))]
        as_aux_lemma =>
          repeat' (first | (apply v8; exact rfl; exact dT_) | (apply p9; exact rfl; exact dF_; exact rfl; exact rfl) | (apply za5; exact rfl; exact dF_; exact rfl) | ((first | ((apply t8 (f := 49)); exact rfl) | ((apply t9 (f := 49)); exact rfl; kernel_rfl; exact rfl; exact sJ_)); exact eV_; exact (fun w hw => zj5 hzf w (hV.keep hw (by exact aO_)))) | ((first | ((apply t8 (f := 24)); exact rfl) | ((apply t9 (f := 24)); exact rfl; kernel_rfl; exact rfl; exact sJ_)); exact eV_; exact (fun w hw => ze7 hgi w (hV.keep hw (by exact aO_)))) | ((first | apply w9 | apply y8 | apply x8 | apply p4); exact rfl; exact rfl) | (apply w7; first | refine u9 (h := ?_) | refine y9 (h := ?_) | refine w8 (h := ?_) | refine q6 (h := ?_) | refine q0 (h := ?_)) | ((first | apply p3 | apply zc8 | apply o8 | apply d9 | apply l0 | apply l8); exact rfl; exact rfl; exact rfl) | (apply o7; exact rfl; intro _) | (apply q7; first | refine q8 (h := ?_) | refine q9 (h := ?_)) | (apply o9; infer_instance; exact rfl; exact rfl) | (apply m8; infer_instance; infer_instance; exact rfl; exact rfl; (first | exact rfl | omega); exact rfl; (first | assumption | omega | decide)) | (apply zo4; exact rfl; exact rfl) | ((first | apply s9 | apply x9 | apply z8 | apply s7 | apply s8 | apply w4 | apply z9 | apply w5)) | (apply v8; exact rfl; exact tT_) | (apply v9; exact rfl; exact fF_) | ((first | apply w6 | apply z6 | apply z0 | apply p5 | apply y0 | apply z7)) | ((apply p6 (id := 23) []); kernel_rfl; kernel_rfl) | (apply za6; try simp only [za9, List.cons_append, List.nil_append]) | ((first | apply i9 | apply n9 | apply m5); exact rfl; exact rfl) | ((first | apply zb4); exact rfl; exact rfl) | (apply m0; first | refine k8 (h := ?_) | refine p7 (h := ?_) | refine m6 (h := ?_) | refine d8 (h := ?_) | refine d7 (h := ?_)) | ((first | apply ze6 | apply zh4 | apply zm1 | apply zi4 | apply zr1); exact rfl; exact rfl; exact rfl) | (apply zm8; exact rfl; exact tT_; exact rfl; exact rfl) | (apply zh9; exact rfl; exact fF_; exact rfl; exact rfl) | (apply zr9; first | refine yb9 (h := ?_)) | (apply zc3; infer_instance; infer_instance; exact rfl; exact rfl; (first | exact rfl | omega); exact rfl; (first | assumption | omega | decide)) | ((first | apply zt3); exact rfl; exact gG_) | (apply zv7; exact rfl; exact gG_; exact rfl) | (apply zx2; exact rfl; intro hcond; rotate_left; intro hcond; rotate_left))
          all_goals first
            | (exfalso; omega)
            | (apply p8; apply zb0 Try.results34; exact rV_; intro w' hw; exact ⟨rfl, hw.below (by simp)⟩)
      have hsok := hsk.2 hn1
      as_aux_lemma =>
        repeat' (first | (apply v8; exact rfl; exact dT_) | (apply v9; exact rfl; exact dF_) | (apply p9; exact rfl; exact dF_; exact rfl; exact rfl) | (apply za5; exact rfl; exact dF_; exact rfl) | ((first | ((apply t8 (f := 49)); exact rfl) | ((apply t9 (f := 49)); exact rfl; kernel_rfl; exact rfl; exact sJ_)); exact eV_; exact (fun w hw => zj5 hzf w (hV.keep hw (by exact aO_)))) | ((first | ((apply t8 (f := 24)); exact rfl) | ((apply t9 (f := 24)); exact rfl; kernel_rfl; exact rfl; exact sJ_)); exact eV_; exact (fun w hw => ze7 hgi w (hV.keep hw (by exact aO_)))) | ((first | apply w9 | apply y8 | apply x8 | apply p4); exact rfl; exact rfl) | (apply w7; first | refine u9 (h := ?_) | refine y9 (h := ?_) | refine w8 (h := ?_) | refine q6 (h := ?_) | refine q0 (h := ?_)) | ((first | apply p3 | apply zc8 | apply o8 | apply d9 | apply l0 | apply l8); exact rfl; exact rfl; exact rfl) | (apply o7; exact rfl; intro _) | (apply q7; first | refine q8 (h := ?_) | refine q9 (h := ?_)) | (apply o9; infer_instance; exact rfl; exact rfl) | (apply m8; infer_instance; infer_instance; exact rfl; exact rfl; (first | exact rfl | omega); exact rfl; (first | assumption | omega | decide)) | (apply zo4; exact rfl; exact rfl) | ((first | apply s9 | apply x9 | apply z8 | apply s7 | apply s8 | apply w4 | apply z9 | apply w5)) | (apply v9; exact rfl; exact fF_) | ((first | apply w6 | apply z6 | apply z0 | apply p5 | apply y0 | apply z7)) | ((apply p6 (id := 23) []); kernel_rfl; kernel_rfl) | (apply za6; try simp only [za9, List.cons_append, List.nil_append]) | ((first | apply i9 | apply n9 | apply m5); exact rfl; exact rfl) | ((first | apply zb4); exact rfl; exact rfl) | (apply m0; first | refine k8 (h := ?_) | refine p7 (h := ?_) | refine m6 (h := ?_) | refine d8 (h := ?_) | refine d7 (h := ?_)) | ((first | apply ze6 | apply zh4 | apply zm1 | apply zi4 | apply zr1); exact rfl; exact rfl; exact rfl) | (apply zh9; exact rfl; exact fF_; exact rfl; exact rfl) | (apply zr9; first | refine yb9 (h := ?_)) | (apply zc3; infer_instance; infer_instance; exact rfl; exact rfl; (first | exact rfl | omega); exact rfl; (first | assumption | omega | decide)) | ((first | apply zt3); exact rfl; exact gG_))
        rename_i b10
        apply j9 (σ := Nat) (Fs := fun j => [(12, .int .i64 j), (10, ptr b10), (9, .int .i64 k), (6, .int .i64 mk), (5, ptr b5), (2, ptr b2), (1, .int .i64 i)]) (Ls := fun _ => ⟨b10, Ce [.int .i64 sp, .int .i64 sn] 96, true⟩ :: ⟨b5, Ce [.int .i64 y.id, .int .i64 y.mach, .int .i64 y.rel, .slice (some ⟨b, off, none⟩) y.src.length k1, .slice x2 y.table.length k2, .slice x3 y.unread.length k3] 93, true⟩ :: ⟨b2, Ce [.slice (some ⟨bm, om, none⟩) p.ms.length c1, .slice a2 p.items.length c2, .slice (some ⟨bp, op, none⟩) p.passes.length c3] 33, true⟩ :: []) (I := fun j => j ≤ i + 1 ∧ (∀ (j' : Nat) (z : Plt.za3), j' < j → j' < i → p.passes[j']? = some z → (sp, sn) ∉ z.src) ∧ (j = i + 1 → (sp, sn) ∉ y.src.take k)) (μ := fun j => i + 1 - j) (s0 := 0)
        · exact ⟨Nat.zero_le _, fun j' z hj' => by omega, fun h => by omega⟩
        · exact fS_
        · exact hS_
        rintro j ⟨hj, hjs, hjl⟩
        by_cases hji : j < i
        · obtain ⟨z, hz⟩ : ∃ z, p.passes[j]? = some z := ⟨_, List.getElem?_eq_getElem (by omega)⟩
          obtain ⟨dz, hdz⟩ : ∃ z, ys[j]? = some z := ⟨_, List.getElem?_eq_getElem (by omega)⟩
          have hzV := hpass j dz z hdz hz
          obtain ⟨s1, o1, s2, o2, s3, o3, rfl⟩ := hzV.eqs
          have gz : ∀ jj u, ([.int .i64 z.id, .int .i64 z.mach, .int .i64 z.rel, .slice s1 z.src.length o1, .slice s2 z.table.length o2, .slice s3 z.unread.length o3] : List Value)[jj]? = some u → ccp[op + j * 6 + jj]? = some u := hpp.get hdz
          have hzs := hzV.src
          dsimp only [sdV] at hzs
          obtain ⟨_, _, ez, hcz, hopz⟩ := hzs.open
          cases ez
          as_aux_lemma =>
            repeat' (first | (apply v8; exact rfl; exact dT_) | ((first | apply w9 | apply y8 | apply x8 | apply p4); exact rfl; exact rfl) | ((first | apply p3 | apply zc8 | apply o8 | apply d9 | apply l0 | apply l8); exact rfl; exact rfl; exact rfl) | ((first | apply s9 | apply x9 | apply z8 | apply s7 | apply s8 | apply w4 | apply z9 | apply w5)) | ((first | apply w6 | apply z6 | apply z0 | apply p5 | apply y0 | apply z7)))
            apply j9 (σ := Nat) (Fs := fun n => [(13, .int .i64 n), (12, .int .i64 j), (10, ptr b10), (9, .int .i64 k), (6, .int .i64 mk), (5, ptr b5), (2, ptr b2), (1, .int .i64 i)]) (Ls := fun _ => ⟨b10, Ce [.int .i64 sp, .int .i64 sn] 96, true⟩ :: ⟨b5, Ce [.int .i64 y.id, .int .i64 y.mach, .int .i64 y.rel, .slice (some ⟨b, off, none⟩) y.src.length k1, .slice x2 y.table.length k2, .slice x3 y.unread.length k3] 93, true⟩ :: ⟨b2, Ce [.slice (some ⟨bm, om, none⟩) p.ms.length c1, .slice a2 p.items.length c2, .slice (some ⟨bp, op, none⟩) p.passes.length c3] 33, true⟩ :: []) (I := fun n => n ≤ z.src.length ∧ ∀ x ∈ z.src.take n, x ≠ ((sp, sn) : Int × Int)) (μ := fun n => z.src.length - n) (s0 := 0)
            · exact ⟨Nat.zero_le _, by simp⟩
            · exact fS_
            · exact hS_
            rintro n ⟨hn, hne⟩
            by_cases hnl : n < z.src.length
            · obtain ⟨⟨tp, tn⟩, ht⟩ : ∃ s, z.src[n]? = some s := ⟨_, List.getElem?_eq_getElem hnl⟩
              obtain ⟨bz, oz, ccz, ez, fzz, rfl, hkz, hpz⟩ := hopz (by omega)
              have gt : ∀ jj u, ([.int .i64 tp, .int .i64 tn] : List Value)[jj]? = some u → ccz[oz + n * 2 + jj]? = some u := hpz.get ht
              by_cases he : tp = sp ∧ tn = sn
              · rw [zc2 (fun g => (hsrcs.1 (e0.1 g).1).1.2 ((Plt.zs5 hy).2 (.inl ⟨j, hji, z, hz, by have := List.mem_of_getElem? ht; rw [he.1, he.2] at this; exact this⟩)))]
                as_aux_lemma =>
                  repeat' (first | (apply n8; exact rfl; exact dT_; exact rfl; exact rfl) | (apply k9; exact rfl; exact dT_) | (apply za5; exact rfl; exact dT_; exact rfl) | ((first | apply w9 | apply y8 | apply x8 | apply p4); exact rfl; exact rfl) | ((first | apply za7); exact rfl; exact rfl) | (apply w7; first | refine u9 (h := ?_) | refine y9 (h := ?_) | refine w8 (h := ?_) | refine q6 (h := ?_) | refine q0 (h := ?_)) | ((first | apply p3 | apply zc8 | apply o8 | apply d9 | apply l0 | apply l8); exact rfl; exact rfl; exact rfl) | (apply o9; infer_instance; exact rfl; exact rfl) | (apply m8; infer_instance; infer_instance; exact rfl; exact rfl; (first | exact rfl | omega); exact rfl; (first | assumption | omega | decide)) | ((first | apply s9 | apply x9 | apply z8 | apply s7 | apply s8 | apply w4 | apply z9 | apply w5)) | (apply v8; exact rfl; exact tT_) | ((first | apply w6 | apply z6 | apply z0 | apply p5 | apply y0 | apply z7)) | ((apply p6 (id := 31) []); kernel_rfl; kernel_rfl) | (apply za6; try simp only [za9, List.cons_append, List.nil_append]) | ((first | apply i9 | apply n9 | apply m5); exact rfl; exact rfl) | ((first | apply zb4); exact rfl; exact rfl) | (apply m0; first | refine k8 (h := ?_) | refine p7 (h := ?_) | refine m6 (h := ?_) | refine d8 (h := ?_) | refine d7 (h := ?_)) | (apply zh2; refine zr4 (h := ?_)) | (apply zc3; infer_instance; infer_instance; exact rfl; exact rfl; (first | exact rfl | omega); exact rfl; (first | assumption | omega | decide)))
                  apply p8; apply zb0 Try.results34; exact rV_; intro w' hw
                  exact ⟨rfl, hw.below (by simp)⟩
              · as_aux_lemma =>
                  repeat' (first | (apply n8; exact rfl; exact dT_; exact rfl; exact rfl) | (apply k9; exact rfl; exact dT_) | (apply za5; exact rfl; exact dT_; exact rfl) | ((first | apply w9 | apply y8 | apply x8 | apply p4); exact rfl; exact rfl) | ((first | apply za7); exact rfl; exact rfl) | (apply w7; first | refine u9 (h := ?_) | refine y9 (h := ?_) | refine w8 (h := ?_) | refine q6 (h := ?_) | refine q0 (h := ?_)) | ((first | apply p3 | apply zc8 | apply o8 | apply d9 | apply l0 | apply l8); exact rfl; exact rfl; exact rfl) | (apply j0; exact rfl; exact rfl; exact rfl; (constructor <;> omega)) | (apply o9; infer_instance; exact rfl; exact rfl) | (apply m8; infer_instance; infer_instance; exact rfl; exact rfl; (first | exact rfl | omega); exact rfl; (first | assumption | omega | decide)) | ((first | apply s9 | apply x9 | apply z8 | apply s7 | apply s8 | apply w4 | apply z9 | apply w5)) | (apply v8; exact rfl; exact tT_) | (apply v9; exact rfl; exact fF_) | ((first | apply w6 | apply z6 | apply z0 | apply p5 | apply y0 | apply z7)) | ((apply p6 (id := 31) []); kernel_rfl; kernel_rfl) | (apply za6; try simp only [za9, List.cons_append, List.nil_append]) | ((first | apply i9 | apply n9 | apply m5); exact rfl; exact rfl) | ((first | apply zb4); exact rfl; exact rfl) | (apply m0; first | refine k8 (h := ?_) | refine p7 (h := ?_) | refine m6 (h := ?_) | refine d8 (h := ?_) | refine d7 (h := ?_)) | (apply zh2; refine zr4 (h := ?_)) | (apply zc3; infer_instance; infer_instance; exact rfl; exact rfl; (first | exact rfl | omega); exact rfl; (first | assumption | omega | decide)))
                  refine o0 (n + 1) ⟨by omega, zh0 ht hne (fun g => he ⟨congrArg Prod.fst g, congrArg Prod.snd g⟩)⟩ (by omega) ?_ ?_
                  · exact fS_
                  · exact hS_
            rw [List.take_of_length_le (by omega)] at hne
            repeat' (first | (apply p9; exact rfl; exact dF_; exact rfl; exact rfl) | (apply za5; exact rfl; exact dF_; exact rfl) | ((first | apply w9 | apply y8 | apply x8 | apply p4); exact rfl; exact rfl) | ((first | apply za7); exact rfl; exact rfl) | (apply w7; first | refine u9 (h := ?_) | refine y9 (h := ?_) | refine w8 (h := ?_) | refine q6 (h := ?_) | refine q0 (h := ?_)) | ((first | apply p3 | apply zc8 | apply o8 | apply d9 | apply l0 | apply l8); exact rfl; exact rfl; exact rfl) | (apply j0; exact rfl; exact rfl; exact rfl; (constructor <;> omega)) | (apply o9; infer_instance; exact rfl; exact rfl) | (apply m8; infer_instance; infer_instance; exact rfl; exact rfl; (first | exact rfl | omega); exact rfl; (first | assumption | omega | decide)) | (apply zo4; exact rfl; exact rfl) | ((first | apply s9 | apply x9 | apply z8 | apply s7 | apply s8 | apply w4 | apply z9 | apply w5)) | (apply v9; exact rfl; exact fF_) | ((first | apply w6 | apply z6 | apply z0 | apply p5 | apply y0 | apply z7)))
            refine o0 (j + 1) ⟨by omega, fun j' z' hj' hj2 hz' => ?_, fun g => by omega⟩ (by omega) ?_ ?_
            · by_cases hjj : j' = j
              · subst hjj
                rw [hz] at hz'
                cases hz'
                exact fun hm => hne _ hm rfl
              · exact hjs j' z' (by omega) hj2 hz'
            · exact fS_
            · exact hS_
        by_cases hjl2 : j = i
        · subst hjl2
          as_aux_lemma =>
            repeat' (first | (apply v8; exact rfl; exact dT_) | ((first | apply w9 | apply y8 | apply x8 | apply p4); exact rfl; exact rfl) | ((first | apply p3 | apply zc8 | apply o8 | apply d9 | apply l0 | apply l8); exact rfl; exact rfl; exact rfl) | ((first | apply s9 | apply x9 | apply z8 | apply s7 | apply s8 | apply w4 | apply z9 | apply w5)) | ((first | apply w6 | apply z6 | apply z0 | apply p5 | apply y0 | apply z7)))
            apply j9 (σ := Nat) (Fs := fun n => [(13, .int .i64 n), (12, .int .i64 j), (10, ptr b10), (9, .int .i64 k), (6, .int .i64 mk), (5, ptr b5), (2, ptr b2), (1, .int .i64 j)]) (Ls := fun _ => ⟨b10, Ce [.int .i64 sp, .int .i64 sn] 96, true⟩ :: ⟨b5, Ce [.int .i64 y.id, .int .i64 y.mach, .int .i64 y.rel, .slice (some ⟨b, off, none⟩) y.src.length k1, .slice x2 y.table.length k2, .slice x3 y.unread.length k3] 93, true⟩ :: ⟨b2, Ce [.slice (some ⟨bm, om, none⟩) p.ms.length c1, .slice a2 p.items.length c2, .slice (some ⟨bp, op, none⟩) p.passes.length c3] 33, true⟩ :: []) (I := fun n => n ≤ k ∧ ∀ x ∈ (y.src.take k).take n, x ≠ ((sp, sn) : Int × Int)) (μ := fun n => k - n) (s0 := 0)
            · exact ⟨Nat.zero_le _, by simp⟩
            · exact fS_
            · exact hS_
            rintro n ⟨hn, hne⟩
            by_cases hnl : n < k
            · obtain ⟨⟨tp, tn⟩, ht⟩ : ∃ s, y.src[n]? = some s := ⟨_, List.getElem?_eq_getElem (by omega)⟩
              have ht2 : (y.src.take k)[n]? = some (tp, tn) := by rw [List.getElem?_take_of_lt hnl]; exact ht
              have gt : ∀ jj u, ([.int .i64 tp, .int .i64 tn] : List Value)[jj]? = some u → cc[off + n * 2 + jj]? = some u := hpt.get ht
              by_cases he : tp = sp ∧ tn = sn
              · rw [zc2 (fun g => (hsrcs.1 (e0.1 g).1).1.2 ((Plt.zs5 hy).2 (.inr (by have := List.mem_of_getElem? ht2; rw [he.1, he.2] at this; exact this))))]
                as_aux_lemma =>
                  repeat' (first | (apply v8; exact rfl; exact dT_) | (apply n8; exact rfl; exact dT_; exact rfl; exact rfl) | (apply p9; exact rfl; exact dF_; exact rfl; exact rfl) | (apply k9; exact rfl; exact dT_) | (apply k9; exact rfl; exact dF_) | ((first | apply w9 | apply y8 | apply x8 | apply p4); exact rfl; exact rfl) | ((first | apply za7); exact rfl; exact rfl) | (apply w7; first | refine u9 (h := ?_) | refine y9 (h := ?_) | refine w8 (h := ?_) | refine q6 (h := ?_) | refine q0 (h := ?_)) | ((first | apply p3 | apply zc8 | apply o8 | apply d9 | apply l0 | apply l8); exact rfl; exact rfl; exact rfl) | (apply o9; infer_instance; exact rfl; exact rfl) | (apply m8; infer_instance; infer_instance; exact rfl; exact rfl; (first | exact rfl | omega); exact rfl; (first | assumption | omega | decide)) | ((first | apply s9 | apply x9 | apply z8 | apply s7 | apply s8 | apply w4 | apply z9 | apply w5)) | (apply v8; exact rfl; exact tT_) | ((first | apply w6 | apply z6 | apply z0 | apply p5 | apply y0 | apply z7)) | ((apply p6 (id := 31) []); kernel_rfl; kernel_rfl) | (apply za6; try simp only [za9, List.cons_append, List.nil_append]) | ((first | apply i9 | apply n9 | apply m5); exact rfl; exact rfl) | ((first | apply zb4); exact rfl; exact rfl) | (apply m0; first | refine k8 (h := ?_) | refine p7 (h := ?_) | refine m6 (h := ?_) | refine d8 (h := ?_) | refine d7 (h := ?_)) | (apply zh2; refine zr4 (h := ?_)) | (apply zc3; infer_instance; infer_instance; exact rfl; exact rfl; (first | exact rfl | omega); exact rfl; (first | assumption | omega | decide)))
                  apply p8; apply zb0 Try.results34; exact rV_; intro w' hw
                  exact ⟨rfl, hw.below (by simp)⟩
              · as_aux_lemma =>
                  repeat' (first | (apply v8; exact rfl; exact dT_) | (apply n8; exact rfl; exact dT_; exact rfl; exact rfl) | (apply p9; exact rfl; exact dF_; exact rfl; exact rfl) | (apply k9; exact rfl; exact dT_) | (apply k9; exact rfl; exact dF_) | ((first | apply w9 | apply y8 | apply x8 | apply p4); exact rfl; exact rfl) | ((first | apply za7); exact rfl; exact rfl) | (apply w7; first | refine u9 (h := ?_) | refine y9 (h := ?_) | refine w8 (h := ?_) | refine q6 (h := ?_) | refine q0 (h := ?_)) | ((first | apply p3 | apply zc8 | apply o8 | apply d9 | apply l0 | apply l8); exact rfl; exact rfl; exact rfl) | (apply j0; exact rfl; exact rfl; exact rfl; (constructor <;> omega)) | (apply o9; infer_instance; exact rfl; exact rfl) | (apply m8; infer_instance; infer_instance; exact rfl; exact rfl; (first | exact rfl | omega); exact rfl; (first | assumption | omega | decide)) | ((first | apply s9 | apply x9 | apply z8 | apply s7 | apply s8 | apply w4 | apply z9 | apply w5)) | (apply v9; exact rfl; exact fF_) | ((first | apply w6 | apply z6 | apply z0 | apply p5 | apply y0 | apply z7)) | ((apply p6 (id := 31) []); kernel_rfl; kernel_rfl) | (apply za6; try simp only [za9, List.cons_append, List.nil_append]) | ((first | apply i9 | apply n9 | apply m5); exact rfl; exact rfl) | ((first | apply zb4); exact rfl; exact rfl) | (apply m0; first | refine k8 (h := ?_) | refine p7 (h := ?_) | refine m6 (h := ?_) | refine d8 (h := ?_) | refine d7 (h := ?_)) | (apply zh2; refine zr4 (h := ?_)) | (apply zc3; infer_instance; infer_instance; exact rfl; exact rfl; (first | exact rfl | omega); exact rfl; (first | assumption | omega | decide)))
                  refine o0 (n + 1) ⟨by omega, zh0 ht2 hne (fun g => he ⟨congrArg Prod.fst g, congrArg Prod.snd g⟩)⟩ (by omega) ?_ ?_
                  · exact fS_
                  · exact hS_
            obtain rfl : n = k := by omega
            rw [List.take_of_length_le (by rw [List.length_take]; omega)] at hne
            repeat' (first | (apply v9; exact rfl; exact dF_) | (apply n8; exact rfl; exact dT_; exact rfl; exact rfl) | (apply p9; exact rfl; exact dF_; exact rfl; exact rfl) | (apply k9; exact rfl; exact dT_) | (apply k9; exact rfl; exact dF_) | ((first | apply w9 | apply y8 | apply x8 | apply p4); exact rfl; exact rfl) | ((first | apply za7); exact rfl; exact rfl) | (apply w7; first | refine u9 (h := ?_) | refine y9 (h := ?_) | refine w8 (h := ?_) | refine q6 (h := ?_) | refine q0 (h := ?_)) | ((first | apply p3 | apply zc8 | apply o8 | apply d9 | apply l0 | apply l8); exact rfl; exact rfl; exact rfl) | (apply j0; exact rfl; exact rfl; exact rfl; (constructor <;> omega)) | (apply o9; infer_instance; exact rfl; exact rfl) | (apply m8; infer_instance; infer_instance; exact rfl; exact rfl; (first | exact rfl | omega); exact rfl; (first | assumption | omega | decide)) | ((first | apply s9 | apply x9 | apply z8 | apply s7 | apply s8 | apply w4 | apply z9 | apply w5)) | ((first | apply w6 | apply z6 | apply z0 | apply p5 | apply y0 | apply z7)))
            refine o0 (j + 1) ⟨by omega, fun j' z' hj' hj2 hz' => hjs j' z' hj2 hj2 hz', fun _ hm => hne _ hm rfl⟩ (by omega) ?_ ?_
            · exact fS_
            · exact hS_
        obtain rfl : j = i + 1 := by omega
        have hnt : (sp, sn) ∉ (tkF (p.passes.take i)) ++ y.src.take k := fun hm => by
          rcases (Plt.zs5 hy).1 hm with ⟨j', hj', z, hz, hs⟩ | hs
          · exact hjs j' z (by omega) hj' hz hs
          · exact hjl rfl hs
        repeat' (first | (apply v9; exact rfl; exact dF_) | ((first | apply w9 | apply y8 | apply x8 | apply p4); exact rfl; exact rfl) | ((first | apply p3 | apply zc8 | apply o8 | apply d9 | apply l0 | apply l8); exact rfl; exact rfl; exact rfl) | (apply j0; exact rfl; exact rfl; exact rfl; (constructor <;> omega)) | ((first | apply s9 | apply x9 | apply z8 | apply s7 | apply s8 | apply w4 | apply z9 | apply w5)) | ((first | apply w6 | apply z6 | apply z0 | apply p5 | apply y0 | apply z7)))
        refine o0 (k + 1) ⟨by omega, hsrcs.trans ⟨fun g => g.2, fun g => ⟨⟨hsok, hnt⟩, g⟩⟩⟩ (by omega) ?_ ?_
        · exact fS_
        · exact hS_
  rw [List.drop_of_length_le (by omega)] at hsrcs
  rw [zj0 (e0.2 ⟨hsrcs.2 (by simp [Plt.zg1]), hrok⟩)]
  repeat' (first | (apply v9; exact rfl; exact dF_) | ((first | apply w9 | apply y8 | apply x8 | apply p4); exact rfl; exact rfl) | (apply w7; first | refine u9 (h := ?_) | refine y9 (h := ?_) | refine w8 (h := ?_) | refine q6 (h := ?_) | refine q0 (h := ?_)) | ((first | apply p3 | apply zc8 | apply o8 | apply d9 | apply l0 | apply l8); exact rfl; exact rfl; exact rfl) | (apply o9; infer_instance; exact rfl; exact rfl) | ((first | apply s9 | apply x9 | apply z8 | apply s7 | apply s8 | apply w4 | apply z9 | apply w5)) | ((first | apply w6 | apply z6 | apply z0 | apply p5 | apply y0 | apply z7)))
  apply p8; apply zb0 Try.results34; exact rV_; intro w' hw
  exact ⟨rfl, hw.below (by simp)⟩
end Go.Proofs.Ytdahckhlfldkkaa
