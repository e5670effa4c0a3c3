/- A part of the proofs of this seat: a small logic of walks, plain laws, and what some of the program's functions compute, shown by walks through their code. Conditions: the hypotheses that each theorem names. -/
import Derived.Test.YtdahckhlfldkkaaZPWhere3
import Derived.Test.YtdahckhlfldkkaaZPWhere11
import Derived.Test.YtdahckhlfldkkaaZPWhere9
import Derived.Test.YtdahckhlfldkkaaZPWhere8
set_option linter.unusedSimpArgs false
set_option linter.unusedVariables false
set_option linter.unusedSectionVars false
namespace Go.Proofs.Ytdahckhlfldkkaa
open Go Go.Sx Go.RowKit
attribute [local irreducible] WL WC WQ WR WB WF QB St Exit.then Exit.inBlock Exit.noGoto bodyPost roundPost zc9 YR RG BM Calls B zd4 zf2
theorem zO6 {cv fv : Value} {caps : List Int} {s : Int} {l : List Srt.Fd} {m : Srt.M} {k : Int} (he : Srt.zc7 caps s l = (m, k)) (w : World) (h : SV w 1 encI cv caps) (hl : SV w 2 zo2 fv l) :
    Calls Try.prog 31 #[cv, .int .i64 s, fv] w fun e w' => ∃ v N, e = .returned v ∧ (∃ a1 n1 c1 a2 n2 c2 a3 n3 c3 a4 n4 c4 a5 n5 c5, v = .tuple #[.agg #[.slice a1 n1 c1, .slice a2 n2 c2, .slice a3 n3 c3, .slice a4 n4 c4, .slice a5 n5 c5], .int .i64 k] ∧ passX m (.agg #[.slice a1 n1 c1, .slice a2 n2 c2, .slice a3 n3 c3, .slice a4 n4 c4, .slice a5 n5 c5]) N ∧ ∀ x ∈ N, x.own = true) ∧ Rep w w' N ∧ ∀ x ∈ N, x.own = true :=
  (ym0 w h hl).mono fun e w' ⟨v, N, h1, h2, h3, h4⟩ => by
    rw [he] at h2
    obtain ⟨a1, n1, c1, a2, n2, c2, a3, n3, c3, a4, n4, c4, a5, n5, c5, rfl, hX⟩ := h2
    exact ⟨_, N, h1, ⟨a1, n1, c1, a2, n2, c2, a3, n3, c3, a4, n4, c4, a5, n5, c5, rfl, hX, h4⟩, h3, h4⟩
theorem zM3 {v : Value} {l : List Plt.Sh} {a : Nat} {k : Int} (hf : Plt.zb5 [] l = (a, k)) (w : World) (h : SV w 2 zr1 v l) : Calls Try.prog 32 #[.slice none 0 0, v] w fun e w' => e = .returned (.tuple #[.int .i64 a, .int .i64 k]) ∧ Below w.heap.size w w' := by
  have := yb6 w h; rw [hf] at this; exact this
theorem yn2 {q : PlD} {p : Plt.i8} {i : Nat} {y : Plt.za3} {b : Bool} (hy : p.passes[i]? = some y) (hpre : ∀ (j : Nat) (z : Plt.za3), j < i → p.passes[j]? = some z → 0 ≤ Plt.zj1 z.mach (p.ms.map Plt.zb3.id)) (hsz : p.ms.length ≤ 20 ∧ p.passes.length ≤ 60)
    (hb : B (Plt.zg9 (Plt.zf3 p.ms) (psF (Plt.zf3 p.ms) (p.passes.take i)) (tkF (p.passes.take i)) y) = b) (w : World) (h : PlV w q p) : Calls Try.prog 34 #[plV q, .int .i64 i] w fun e w' => e = .returned (.bool b) ∧ Below w.heap.size w w' := by
  subst hb; exact yi9 hy hpre w h hsz
set_option maxHeartbeats 32000000 in
set_option maxRecDepth 100000 in
theorem ya0 {q : PlD} {p : Plt.i8} (w : World) (h : PlV w q p) : Calls Try.prog 13 #[plV q] w fun e w' => e = .returned (.tuple #[.int .i64 (Plt.zd2 p).1, .int .i64 (Plt.zd2 p).2]) ∧ Below w.heap.size w w' := by
  have hV := h
  obtain ⟨⟨a1, n1, c1⟩, ⟨a2, n2, c2⟩, ⟨a3, n3, c3⟩, ds, ys⟩ := q
  obtain ⟨hM, hI, hP, lm, lp, hmach, hpass⟩ := h
  dsimp only [sdV, plV] at hM hI hP lm lp hmach hpass ⊢
  obtain ⟨_, _, e1, hc1, hop1⟩ := hM.open
  cases e1
  obtain ⟨_, _, e2, hc2, hop2⟩ := hI.open
  cases e2
  obtain ⟨_, _, e3, hc3, hop3⟩ := hP.open
  cases e3
  rw [lm] at hc1 hop1 hM hV ⊢
  rw [lp] at hc3 hop3 hP hV ⊢
  by_cases hsz : 20 < p.ms.length ∨ 2000 < p.items.length ∨ 60 < p.passes.length
  · rw [show Plt.zd2 p = (0, 5) by unfold Plt.zd2; rw [if_pos hsz]]
    refine zd3 Try.func13 rfl Try.ntmps13 rfl (Rep.start w) ?_
    repeat' (first | (apply v8; exact rfl; exact dT_) | (apply n9; exact rfl; exact dT_; exact rfl; exact rfl) | (apply p9; exact rfl; exact dF_; exact rfl; exact rfl) | (apply j0; exact rfl; exact dF_) | (apply za2; exact rfl; exact dT_; exact rfl) | ((first | apply w9 | apply y8 | apply x9 | apply p6); exact rfl; exact rfl) | (apply w7; first | refine u9 (h := ?_) | refine y9 (h := ?_) | refine w8 (h := ?_) | refine q7 (h := ?_) | refine q6 (h := ?_)) | ((first | apply p4 | apply n0 | apply l8 | apply p5); exact rfl; exact rfl; exact rfl) | (apply n9; exact rfl; exact tT_; exact rfl; exact rfl) | (apply zc3; exact rfl; exact rfl; exact rfl; intro _) | (apply n8; infer_instance; exact rfl; exact rfl) | (apply za2; exact rfl; exact gG_; exact rfl) | ((first | apply s9 | apply x8 | apply z8 | apply s7 | apply s8 | apply w4 | apply z9 | apply w5)) | (apply v8; exact rfl; exact tT_) | ((first | apply w6 | apply z6 | apply z0 | apply p7 | apply y0 | apply z7)) | (apply zd0; exact rfl; intro hcond; rotate_left; intro hcond; rotate_left))
    all_goals first
      | (exfalso; omega)
      | (apply o0; apply zf8 Try.results13; exact rV_; exact rV_; intro w' hw; exact ⟨rfl, hw.below (by simp)⟩)
  have e0 : Plt.zd2 p = (match Plt.zf7 [] 0 p.ms with
    | some i => (i, 310)
    | none => match Plt.zg3 [] 0 p.items with
      | some i => (i, 311)
      | none => match Plt.zf5 (Plt.zf3 p.ms) [] [] 0 p.passes with
        | some i => (i, 312)
        | none => (0, 0)) := by unfold Plt.zd2; rw [if_neg hsz]; rfl
  rw [e0]
  refine zd3 Try.func13 rfl Try.ntmps13 rfl (Rep.start w) ?_
  repeat' (first | (apply v9; exact rfl; exact dF_) | (apply p9; exact rfl; exact dF_; exact rfl; exact rfl) | (apply j0; exact rfl; exact dF_) | ((first | apply w9 | apply y8 | apply x9 | apply p6); exact rfl; exact rfl) | (apply w7; first | refine u9 (h := ?_) | refine y9 (h := ?_) | refine w8 (h := ?_) | refine q7 (h := ?_) | refine q6 (h := ?_)) | ((first | apply p4 | apply n0 | apply l8 | apply p5); exact rfl; exact rfl; exact rfl) | (apply zc3; exact rfl; exact rfl; exact rfl; intro _) | (apply n8; infer_instance; exact rfl; exact rfl) | ((first | apply s9 | apply x8 | apply z8 | apply s7 | apply s8 | apply w4 | apply z9 | apply w5)) | ((first | apply w6 | apply z6 | apply z0 | apply p7 | apply y0 | apply z7)))
  rename_i b1
  apply i9 (σ := Nat) (Fs := fun i => [(4, .int .i64 i), (1, ptr b1)]) (Ls := fun _ => ⟨b1, Ce [.slice a1 p.ms.length c1, .slice a2 p.items.length c2, .slice a3 p.passes.length c3] 33, true⟩ :: []) (I := fun i => i ≤ p.ms.length ∧ Plt.zf7 [] 0 p.ms = Plt.zf7 ((p.ms.take i).map Plt.zb3.id) i (p.ms.drop i)) (μ := fun i => p.ms.length - i) (s0 := 0)
  · exact ⟨Nat.zero_le _, by simp⟩
  · exact fS_
  · exact hS_
  rintro i ⟨hi, hbad⟩
  by_cases hlt : i < p.ms.length
  · obtain ⟨m, hx⟩ : ∃ m, p.ms[i]? = some m := ⟨_, List.getElem?_eq_getElem hlt⟩
    obtain ⟨d, hd⟩ : ∃ d, ds[i]? = some d := ⟨_, List.getElem?_eq_getElem (by omega)⟩
    have hmV := hmach i d m hd hx
    obtain ⟨z1, l1, z2, l2, rfl⟩ := hmV.eqs
    obtain ⟨-, -, -, hcaps, hshs⟩ := hmV
    dsimp only [sdV] at hcaps hshs
    obtain ⟨b, off, cc, e, fz, rfl, hk, hp⟩ := hop1 (by omega)
    have g1 : ∀ j u, ([.int .i64 m.id, .int .i64 m.sweeps, .int .i64 m.rate, .slice z1 m.caps.length l1, .slice z2 m.shifts.length l2] : List Value)[j]? = some u → cc[off + i * 5 + j]? = some u := hp.get hd
    have hmi : (p.ms.map Plt.zb3.id)[i]? = some m.id := by rw [List.getElem?_map, hx]; rfl
    have hidx := Plt.zB8 hmi
    rw [← List.map_take] at hidx
    obtain ⟨zp, hzp⟩ : ∃ z, Plt.zj1 m.id (p.ms.map Plt.zb3.id) = z := ⟨_, rfl⟩
    rw [hzp] at hidx
    obtain ⟨⟨rm, re⟩, he⟩ : ∃ r, Srt.zc7 m.caps m.sweeps [] = r := ⟨_, rfl⟩
    obtain ⟨⟨fa, fe⟩, hf⟩ : ∃ r, Plt.zb5 [] m.shifts = r := ⟨_, rfl⟩
    rw [Go.Proofs.Ytdahckhlfldkkaa.drop_at hx, Plt.zf7] at hbad
    have hr : Plt.zh8 m ↔ (1 ≤ m.id ∧ m.id ≤ 999999) ∧ (1 ≤ m.rate ∧ m.rate ≤ 1000) ∧ re = 0 ∧ fe = 0 := by unfold Plt.zh8 Plt.zB7; rw [he, hf]
    by_cases hid : 1 ≤ m.id ∧ m.id ≤ 999999
    case neg =>
      rw [if_neg (fun g => hid (hr.1 g.2).1)] at hbad
      rw [hbad]
      as_aux_lemma =>
        repeat' (first | (apply v8; exact rfl; exact dT_) | ((first | ((apply d7 (f := 31)); exact rfl) | ((apply d8 (f := 31)); exact rfl; exact rfl; exact sJ_)); exact eV_; exact (fun w hw => zO6 he w (hcaps.keep hw (by exact aO_)) SV.nil); rintro v N ⟨r1, r2, r3, r4, r5, r6, r7, r8, r9, r10, r11, r12, r13, r14, r15, rfl, hX, oX⟩ <;> (try simp only [List.cons_append, List.nil_append, List.append_assoc])) | ((first | ((apply t8 (f := 32)); exact rfl) | ((apply t9 (f := 32)); exact rfl; kernel_rfl; exact rfl; exact sJ_)); exact eV_; exact (fun w hw => zM3 hf w (hshs.keep hw (by exact aO_)))) | ((first | ((apply t8 (f := 33)); exact rfl) | ((apply t9 (f := 33)); exact rfl; kernel_rfl; exact rfl; exact sJ_)); exact eV_; exact (fun w _ => zp0 (decide_eq_false hid) w)) | ((first | apply w9 | apply y8 | apply x9 | apply p6); exact rfl; exact rfl) | (apply w7; first | refine u9 (h := ?_) | refine y9 (h := ?_) | refine w8 (h := ?_) | refine q7 (h := ?_) | refine q6 (h := ?_)) | ((first | apply p4 | apply n0 | apply l8 | apply p5); exact rfl; exact rfl; exact rfl) | (apply zd7; exact rfl; exact rfl) | (apply n9; exact rfl; exact tT_; exact rfl; exact rfl) | (apply o8; exact rfl; intro _) | (apply q8; first | refine q9 (h := ?_) | refine p3 (h := ?_)) | (apply n8; infer_instance; exact rfl; exact rfl) | (apply l0; infer_instance; infer_instance; exact rfl; exact rfl; (first | exact rfl | omega); exact rfl; (first | assumption | omega | decide)) | (apply za2; exact rfl; exact gG_; exact rfl) | ((first | apply s9 | apply x8 | apply z8 | apply s7 | apply s8 | apply w4 | apply z9 | apply w5)) | (apply v8; exact rfl; exact tT_) | ((first | apply w6 | apply z6 | apply z0 | apply p7 | apply y0 | apply z7)))
        apply o0; apply zf8 Try.results13; exact rV_; exact rV_; intro w' hw
        exact ⟨rfl, hw.below (show AO _ from by exact aO_)⟩
    by_cases hok : zp = (i : Int) ∧ (1 ≤ m.rate ∧ m.rate ≤ 1000) ∧ re = 0 ∧ fe = 0
    case neg =>
      rw [if_neg (fun g => hok ⟨hidx.2 g.1, (hr.1 g.2).2⟩)] at hbad
      rw [hbad]
      as_aux_lemma =>
        repeat' (first | (apply v8; exact rfl; exact dT_) | (apply n9; exact rfl; exact dT_; exact rfl; exact rfl) | (apply p9; exact rfl; exact dF_; exact rfl; exact rfl) | (apply j0; exact rfl; exact dF_) | (apply za2; exact rfl; exact dT_; exact rfl) | ((first | ((apply d7 (f := 31)); exact rfl) | ((apply d8 (f := 31)); exact rfl; exact rfl; exact sJ_)); exact eV_; exact (fun w hw => zO6 he w (hcaps.keep hw (by exact aO_)) SV.nil); rintro v N ⟨r1, r2, r3, r4, r5, r6, r7, r8, r9, r10, r11, r12, r13, r14, r15, rfl, hX, oX⟩ <;> (try simp only [List.cons_append, List.nil_append, List.append_assoc])) | ((first | ((apply t8 (f := 32)); exact rfl) | ((apply t9 (f := 32)); exact rfl; kernel_rfl; exact rfl; exact sJ_)); exact eV_; exact (fun w hw => zM3 hf w (hshs.keep hw (by exact aO_)))) | ((first | ((apply t8 (f := 24)); exact rfl) | ((apply t9 (f := 24)); exact rfl; kernel_rfl; exact rfl; exact sJ_)); exact eV_; exact (fun w hw => ze4 hzp w (hV.keep hw (by exact aO_)))) | ((first | ((apply t8 (f := 33)); exact rfl) | ((apply t9 (f := 33)); exact rfl; kernel_rfl; exact rfl; exact sJ_)); exact eV_; exact (fun w _ => zp0 (decide_eq_true hid) w)) | ((first | apply w9 | apply y8 | apply x9 | apply p6); exact rfl; exact rfl) | (apply w7; first | refine u9 (h := ?_) | refine y9 (h := ?_) | refine w8 (h := ?_) | refine q7 (h := ?_) | refine q6 (h := ?_)) | ((first | apply p4 | apply n0 | apply l8 | apply p5); exact rfl; exact rfl; exact rfl) | (apply zd7; exact rfl; exact rfl) | (apply n9; exact rfl; exact tT_; exact rfl; exact rfl) | (apply p9; exact rfl; exact fF_; exact rfl; exact rfl) | (apply o8; exact rfl; intro _) | (apply q8; first | refine q9 (h := ?_) | refine p3 (h := ?_)) | (apply n8; infer_instance; exact rfl; exact rfl) | (apply l0; infer_instance; infer_instance; exact rfl; exact rfl; (first | exact rfl | omega); exact rfl; (first | assumption | omega | decide)) | ((first | apply j0); exact rfl; exact gG_) | (apply za2; exact rfl; exact gG_; exact rfl) | ((first | apply s9 | apply x8 | apply z8 | apply s7 | apply s8 | apply w4 | apply z9 | apply w5)) | (apply v8; exact rfl; exact tT_) | ((first | apply w6 | apply z6 | apply z0 | apply p7 | apply y0 | apply z7)) | (apply zd0; exact rfl; intro hcond; rotate_left; intro hcond; rotate_left))
        all_goals first
          | (exfalso; omega)
          | (apply o0; apply zf8 Try.results13; exact rV_; exact rV_; intro w' hw; exact ⟨rfl, hw.below (show AO _ from by exact aO_)⟩)
    rw [if_pos ⟨hidx.1 hok.1, hr.2 ⟨hid, hok.2⟩⟩] at hbad
    as_aux_lemma =>
      repeat' (first | (apply v8; exact rfl; exact dT_) | (apply v9; exact rfl; exact dF_) | (apply p9; exact rfl; exact dF_; exact rfl; exact rfl) | (apply j0; exact rfl; exact dF_) | ((first | ((apply d7 (f := 31)); exact rfl) | ((apply d8 (f := 31)); exact rfl; exact rfl; exact sJ_)); exact eV_; exact (fun w hw => zO6 he w (hcaps.keep hw (by exact aO_)) SV.nil); rintro v N ⟨r1, r2, r3, r4, r5, r6, r7, r8, r9, r10, r11, r12, r13, r14, r15, rfl, hX, oX⟩ <;> (try simp only [List.cons_append, List.nil_append, List.append_assoc])) | ((first | ((apply t8 (f := 32)); exact rfl) | ((apply t9 (f := 32)); exact rfl; kernel_rfl; exact rfl; exact sJ_)); exact eV_; exact (fun w hw => zM3 hf w (hshs.keep hw (by exact aO_)))) | ((first | ((apply t8 (f := 24)); exact rfl) | ((apply t9 (f := 24)); exact rfl; kernel_rfl; exact rfl; exact sJ_)); exact eV_; exact (fun w hw => ze4 hzp w (hV.keep hw (by exact aO_)))) | ((first | ((apply t8 (f := 33)); exact rfl) | ((apply t9 (f := 33)); exact rfl; kernel_rfl; exact rfl; exact sJ_)); exact eV_; exact (fun w _ => zp0 (decide_eq_true hid) w)) | ((first | apply w9 | apply y8 | apply x9 | apply p6); exact rfl; exact rfl) | (apply w7; first | refine u9 (h := ?_) | refine y9 (h := ?_) | refine w8 (h := ?_) | refine q7 (h := ?_) | refine q6 (h := ?_)) | ((first | apply p4 | apply n0 | apply l8 | apply p5); exact rfl; exact rfl; exact rfl) | (apply zd7; exact rfl; exact rfl) | (apply j8; exact rfl; exact rfl; exact rfl; (constructor <;> omega)) | (apply p9; exact rfl; exact fF_; exact rfl; exact rfl) | (apply o8; exact rfl; intro _) | (apply q8; first | refine q9 (h := ?_) | refine p3 (h := ?_)) | (apply n8; infer_instance; exact rfl; exact rfl) | (apply l0; infer_instance; infer_instance; exact rfl; exact rfl; (first | exact rfl | omega); exact rfl; (first | assumption | omega | decide)) | ((first | apply j0); exact rfl; exact gG_) | ((first | apply s9 | apply x8 | apply z8 | apply s7 | apply s8 | apply w4 | apply z9 | apply w5)) | ((first | apply w6 | apply z6 | apply z0 | apply p7 | apply y0 | apply z7)))
      refine o9 (i + 1) ⟨by omega, by rw [take_snoc hx, List.map_append]; exact hbad⟩ (by omega) ?_ ?_
      · exact fS_
      · exact hS_
  obtain rfl : i = p.ms.length := by omega
  rw [List.drop_length, Plt.zf7] at hbad
  rw [hbad]
  dsimp only
  clear hlt hi
  repeat' (first | (apply v9; exact rfl; exact dF_) | ((first | apply w9 | apply y8 | apply x9 | apply p6); exact rfl; exact rfl) | (apply w7; first | refine u9 (h := ?_) | refine y9 (h := ?_) | refine w8 (h := ?_) | refine q7 (h := ?_) | refine q6 (h := ?_)) | ((first | apply p4 | apply n0 | apply l8 | apply p5); exact rfl; exact rfl; exact rfl) | (apply n8; infer_instance; exact rfl; exact rfl) | ((first | apply s9 | apply x8 | apply z8 | apply s7 | apply s8 | apply w4 | apply z9 | apply w5)) | ((first | apply w6 | apply z6 | apply z0 | apply p7 | apply y0 | apply z7)))
  apply i9 (σ := Nat) (Fs := fun i => [(10, .int .i64 i), (1, ptr b1)]) (Ls := fun _ => ⟨b1, Ce [.slice a1 p.ms.length c1, .slice a2 p.items.length c2, .slice a3 p.passes.length c3] 33, true⟩ :: []) (I := fun i => i ≤ p.items.length ∧ Plt.zg3 [] 0 p.items = Plt.zg3 ((p.items.take i).map Plt.Item.id) i (p.items.drop i)) (μ := fun i => p.items.length - i) (s0 := 0)
  · exact ⟨Nat.zero_le _, by simp⟩
  · exact fS_
  · exact hS_
  rintro i ⟨hi, hbi⟩
  by_cases hlt : i < p.items.length
  · obtain ⟨⟨ti, ts, tb⟩, hx⟩ : ∃ m, p.items[i]? = some m := ⟨_, List.getElem?_eq_getElem hlt⟩
    obtain ⟨b, off, cc, e, fz, rfl, hk, hp⟩ := hop2 (by omega)
    have g1 : ∀ j u, ([.int .i64 ti, .int .i64 ts, .int .i64 tb] : List Value)[j]? = some u → cc[off + i * 3 + j]? = some u := hp.get hx
    have hmi : (p.items.map Plt.Item.id)[i]? = some ti := by rw [List.getElem?_map, hx]; rfl
    have hidx := Plt.zB8 hmi
    rw [← List.map_take] at hidx
    obtain ⟨zp, hzp⟩ : ∃ z, Plt.zj1 ti (p.items.map Plt.Item.id) = z := ⟨_, rfl⟩
    rw [hzp] at hidx
    rw [Go.Proofs.Ytdahckhlfldkkaa.drop_at hx, Plt.zg3] at hbi
    have hr : Plt.Item.ok ⟨ti, ts, tb⟩ ↔ (1 ≤ ti ∧ ti ≤ 999999) ∧ 1 ≤ tb ∧ tb ≤ 100 := by unfold Plt.Item.ok Plt.zB7; exact Iff.rfl
    by_cases hid : 1 ≤ ti ∧ ti ≤ 999999
    case neg =>
      rw [if_neg (fun g => hid (hr.1 g.1).1)] at hbi
      rw [hbi]
      as_aux_lemma =>
        repeat' (first | (apply v8; exact rfl; exact dT_) | ((first | ((apply t8 (f := 33)); exact rfl) | ((apply t9 (f := 33)); exact rfl; kernel_rfl; exact rfl; exact sJ_)); exact eV_; exact (fun w _ => zp0 (decide_eq_false hid) w)) | ((first | apply w9 | apply y8 | apply x9 | apply p6); exact rfl; exact rfl) | (apply w7; first | refine u9 (h := ?_) | refine y9 (h := ?_) | refine w8 (h := ?_) | refine q7 (h := ?_) | refine q6 (h := ?_)) | ((first | apply p4 | apply n0 | apply l8 | apply p5); exact rfl; exact rfl; exact rfl) | (apply zd7; exact rfl; exact rfl) | (apply n9; exact rfl; exact tT_; exact rfl; exact rfl) | (apply o8; exact rfl; intro _) | (apply q8; first | refine q9 (h := ?_) | refine p3 (h := ?_)) | (apply n8; infer_instance; exact rfl; exact rfl) | (apply l0; infer_instance; infer_instance; exact rfl; exact rfl; (first | exact rfl | omega); exact rfl; (first | assumption | omega | decide)) | (apply za2; exact rfl; exact gG_; exact rfl) | ((first | apply s9 | apply x8 | apply z8 | apply s7 | apply s8 | apply w4 | apply z9 | apply w5)) | (apply v8; exact rfl; exact tT_) | ((first | apply w6 | apply z6 | apply z0 | apply p7 | apply y0 | apply z7)))
        apply o0; apply zf8 Try.results13; exact rV_; exact rV_; intro w' hw
        exact ⟨rfl, hw.below (show AO _ from by exact aO_)⟩
    by_cases hok : zp = (i : Int) ∧ 1 ≤ tb ∧ tb ≤ 100
    case neg =>
      rw [if_neg (fun g => hok ⟨hidx.2 g.2, (hr.1 g.1).2⟩)] at hbi
      rw [hbi]
      as_aux_lemma =>
        repeat' (first | (apply v8; exact rfl; exact dT_) | (apply n9; exact rfl; exact dT_; exact rfl; exact rfl) | (apply p9; exact rfl; exact dF_; exact rfl; exact rfl) | (apply j0; exact rfl; exact dF_) | (apply za2; exact rfl; exact dT_; exact rfl) | ((first | ((apply t8 (f := 22)); exact rfl) | ((apply t9 (f := 22)); exact rfl; kernel_rfl; exact rfl; exact sJ_)); exact eV_; exact (fun w hw => zr8 hzp w (hV.keep hw (by exact aO_)))) | ((first | ((apply t8 (f := 33)); exact rfl) | ((apply t9 (f := 33)); exact rfl; kernel_rfl; exact rfl; exact sJ_)); exact eV_; exact (fun w _ => zp0 (decide_eq_true hid) w)) | ((first | apply w9 | apply y8 | apply x9 | apply p6); exact rfl; exact rfl) | (apply w7; first | refine u9 (h := ?_) | refine y9 (h := ?_) | refine w8 (h := ?_) | refine q7 (h := ?_) | refine q6 (h := ?_)) | ((first | apply p4 | apply n0 | apply l8 | apply p5); exact rfl; exact rfl; exact rfl) | (apply zd7; exact rfl; exact rfl) | (apply n9; exact rfl; exact tT_; exact rfl; exact rfl) | (apply p9; exact rfl; exact fF_; exact rfl; exact rfl) | (apply o8; exact rfl; intro _) | (apply q8; first | refine q9 (h := ?_) | refine p3 (h := ?_)) | (apply n8; infer_instance; exact rfl; exact rfl) | (apply l0; infer_instance; infer_instance; exact rfl; exact rfl; (first | exact rfl | omega); exact rfl; (first | assumption | omega | decide)) | ((first | apply j0); exact rfl; exact gG_) | (apply za2; exact rfl; exact gG_; exact rfl) | ((first | apply s9 | apply x8 | apply z8 | apply s7 | apply s8 | apply w4 | apply z9 | apply w5)) | (apply v8; exact rfl; exact tT_) | ((first | apply w6 | apply z6 | apply z0 | apply p7 | apply y0 | apply z7)) | (apply zd0; exact rfl; intro hcond; rotate_left; intro hcond; rotate_left))
        all_goals first
          | (exfalso; omega)
          | (apply o0; apply zf8 Try.results13; exact rV_; exact rV_; intro w' hw; exact ⟨rfl, hw.below (show AO _ from by exact aO_)⟩)
    rw [if_pos ⟨hr.2 ⟨hid, hok.2⟩, hidx.1 hok.1⟩] at hbi
    as_aux_lemma =>
      repeat' (first | (apply v8; exact rfl; exact dT_) | (apply v9; exact rfl; exact dF_) | (apply p9; exact rfl; exact dF_; exact rfl; exact rfl) | (apply j0; exact rfl; exact dF_) | ((first | ((apply t8 (f := 22)); exact rfl) | ((apply t9 (f := 22)); exact rfl; kernel_rfl; exact rfl; exact sJ_)); exact eV_; exact (fun w hw => zr8 hzp w (hV.keep hw (by exact aO_)))) | ((first | ((apply t8 (f := 33)); exact rfl) | ((apply t9 (f := 33)); exact rfl; kernel_rfl; exact rfl; exact sJ_)); exact eV_; exact (fun w _ => zp0 (decide_eq_true hid) w)) | ((first | apply w9 | apply y8 | apply x9 | apply p6); exact rfl; exact rfl) | (apply w7; first | refine u9 (h := ?_) | refine y9 (h := ?_) | refine w8 (h := ?_) | refine q7 (h := ?_) | refine q6 (h := ?_)) | ((first | apply p4 | apply n0 | apply l8 | apply p5); exact rfl; exact rfl; exact rfl) | (apply zd7; exact rfl; exact rfl) | (apply j8; exact rfl; exact rfl; exact rfl; (constructor <;> omega)) | (apply p9; exact rfl; exact fF_; exact rfl; exact rfl) | (apply o8; exact rfl; intro _) | (apply q8; first | refine q9 (h := ?_) | refine p3 (h := ?_)) | (apply n8; infer_instance; exact rfl; exact rfl) | (apply l0; infer_instance; infer_instance; exact rfl; exact rfl; (first | exact rfl | omega); exact rfl; (first | assumption | omega | decide)) | ((first | apply j0); exact rfl; exact gG_) | ((first | apply s9 | apply x8 | apply z8 | apply s7 | apply s8 | apply w4 | apply z9 | apply w5)) | ((first | apply w6 | apply z6 | apply z0 | apply p7 | apply y0 | apply z7)))
      refine o9 (i + 1) ⟨by omega, by rw [take_snoc hx, List.map_append]; exact hbi⟩ (by omega) ?_ ?_
      · exact fS_
      · exact hS_
  obtain rfl : i = p.items.length := by omega
  rw [List.drop_length, Plt.zg3] at hbi
  rw [hbi]
  dsimp only
  clear hlt hi
  repeat' (first | (apply v9; exact rfl; exact dF_) | ((first | apply w9 | apply y8 | apply x9 | apply p6); exact rfl; exact rfl) | (apply w7; first | refine u9 (h := ?_) | refine y9 (h := ?_) | refine w8 (h := ?_) | refine q7 (h := ?_) | refine q6 (h := ?_)) | ((first | apply p4 | apply n0 | apply l8 | apply p5); exact rfl; exact rfl; exact rfl) | (apply n8; infer_instance; exact rfl; exact rfl) | ((first | apply s9 | apply x8 | apply z8 | apply s7 | apply s8 | apply w4 | apply z9 | apply w5)) | ((first | apply w6 | apply z6 | apply z0 | apply p7 | apply y0 | apply z7)))
  apply i9 (σ := Nat) (Fs := fun i => [(12, .int .i64 i), (1, ptr b1)]) (Ls := fun _ => ⟨b1, Ce [.slice a1 p.ms.length c1, .slice a2 p.items.length c2, .slice a3 p.passes.length c3] 33, true⟩ :: []) (I := fun i => i ≤ p.passes.length ∧ Plt.zf5 (Plt.zf3 p.ms) [] [] 0 p.passes = Plt.zf5 (Plt.zf3 p.ms) (psF (Plt.zf3 p.ms) (p.passes.take i)) (tkF (p.passes.take i)) i (p.passes.drop i) ∧ ∀ (j : Nat) (z : Plt.za3), j < i → p.passes[j]? = some z → 0 ≤ Plt.zj1 z.mach (p.ms.map Plt.zb3.id)) (μ := fun i => p.passes.length - i) (s0 := 0)
  · exact ⟨Nat.zero_le _, by simp [psF, tkF], fun j z hj => by omega⟩
  · exact fS_
  · exact hS_
  rintro i ⟨hi, hbp, hpre⟩
  by_cases hlt : i < p.passes.length
  · obtain ⟨y, hy⟩ : ∃ y, p.passes[i]? = some y := ⟨_, List.getElem?_eq_getElem hlt⟩
    rw [Go.Proofs.Ytdahckhlfldkkaa.drop_at hy, Plt.zf5] at hbp
    have hs2 : p.ms.length ≤ 20 ∧ p.passes.length ≤ 60 := by omega
    by_cases hok : Plt.zg9 (Plt.zf3 p.ms) (psF (Plt.zf3 p.ms) (p.passes.take i)) (tkF (p.passes.take i)) y
    case neg =>
      rw [if_neg hok] at hbp
      rw [hbp]
      as_aux_lemma =>
        repeat' (first | (apply v8; exact rfl; exact dT_) | ((first | ((apply t8 (f := 34)); exact rfl) | ((apply t9 (f := 34)); exact rfl; kernel_rfl; exact rfl; exact sJ_)); exact eV_; exact (fun w hw => yn2 hy hpre hs2 (zb4 hok) w (hV.keep hw (by exact aO_)))) | ((first | apply w9 | apply y8 | apply x9 | apply p6); exact rfl; exact rfl) | (apply w7; first | refine u9 (h := ?_) | refine y9 (h := ?_) | refine w8 (h := ?_) | refine q7 (h := ?_) | refine q6 (h := ?_)) | ((first | apply p4 | apply n0 | apply l8 | apply p5); exact rfl; exact rfl; exact rfl) | (apply zd7; exact rfl; exact rfl) | (apply n8; infer_instance; exact rfl; exact rfl) | ((first | apply s9 | apply x8 | apply z8 | apply s7 | apply s8 | apply w4 | apply z9 | apply w5)) | (apply v8; exact rfl; exact tT_) | ((first | apply w6 | apply z6 | apply z0 | apply p7 | apply y0 | apply z7)))
        apply o0; apply zf8 Try.results13; exact rV_; exact rV_; intro w' hw
        exact ⟨rfl, hw.below (show AO _ from by exact aO_)⟩
    rw [if_pos hok] at hbp
    have hm0 := ((Plt.yc9 hy).1 hok.1).2.2.1
    as_aux_lemma =>
      repeat' (first | (apply v8; exact rfl; exact dT_) | ((first | ((apply t8 (f := 34)); exact rfl) | ((apply t9 (f := 34)); exact rfl; kernel_rfl; exact rfl; exact sJ_)); exact eV_; exact (fun w hw => yn2 hy hpre hs2 (zh7 hok) w (hV.keep hw (by exact aO_)))) | ((first | apply w9 | apply y8 | apply x9 | apply p6); exact rfl; exact rfl) | (apply w7; first | refine u9 (h := ?_) | refine y9 (h := ?_) | refine w8 (h := ?_) | refine q7 (h := ?_) | refine q6 (h := ?_)) | ((first | apply p4 | apply n0 | apply l8 | apply p5); exact rfl; exact rfl; exact rfl) | (apply zd7; exact rfl; exact rfl) | (apply j8; exact rfl; exact rfl; exact rfl; (constructor <;> omega)) | (apply n8; infer_instance; exact rfl; exact rfl) | ((first | apply s9 | apply x8 | apply z8 | apply s7 | apply s8 | apply w4 | apply z9 | apply w5)) | (apply v9; exact rfl; exact fF_) | ((first | apply w6 | apply z6 | apply z0 | apply p7 | apply y0 | apply z7)))
      refine o9 (i + 1) ⟨by omega, by rw [zl3 hy, zi4 hy]; exact hbp, fun j z hj hz => ?_⟩ (by omega) ?_ ?_
      · by_cases hji : j = i
        · subst hji; rw [hy] at hz; cases hz; exact hm0
        · exact hpre j z (by omega) hz
      · exact fS_
      · exact hS_
  rw [List.drop_of_length_le (by omega), Plt.zf5] at hbp
  rw [hbp]
  repeat' (first | (apply v9; exact rfl; exact dF_) | ((first | apply w9 | apply y8 | apply x9 | apply p6); exact rfl; exact rfl) | (apply w7; first | refine u9 (h := ?_) | refine y9 (h := ?_) | refine w8 (h := ?_) | refine q7 (h := ?_) | refine q6 (h := ?_)) | ((first | apply p4 | apply n0 | apply l8 | apply p5); exact rfl; exact rfl; exact rfl) | (apply n8; infer_instance; exact rfl; exact rfl) | ((first | apply s9 | apply x8 | apply z8 | apply s7 | apply s8 | apply w4 | apply z9 | apply w5)) | ((first | apply w6 | apply z6 | apply z0 | apply p7 | apply y0 | apply z7)))
  apply o0; apply zf8 Try.results13; exact rV_; exact rV_; intro w' hw
  exact ⟨rfl, hw.below (show AO _ from by exact aO_)⟩
end Go.Proofs.Ytdahckhlfldkkaa
namespace Go.Proofs.Ytdahckhlfldkkaa
open Go Go.Sx Go.RowKit
attribute [local irreducible] WL WC WQ WR WB WF QB St Exit.then Exit.inBlock Exit.noGoto bodyPost roundPost zc9 YR RG BM Calls B zd4 zf2
def yO1 (id : Int) (l : List (Int × Int)) (b : Bool) (v : Value) (N : List Ent) : Prop := ∃ a c, v = .tuple #[.slice a (Plt.zd8 id l).length c, .bool b] ∧ OW 139 3 zj5 (.slice a (Plt.zd8 id l).length c) (Plt.zd8 id l) N ∧ ∀ x ∈ N, x.own = true
set_option maxHeartbeats 8000000 in
theorem zU1 {v : Value} {l : List Plt.Sh} (id t need : Int) (w : World) (h : SV w 2 zr1 v l) (hl : l.length ≤ 200) (hb : ∀ s ∈ l, 0 ≤ s.f ∧ s.f < s.t ∧ s.t ≤ 1051898399) (ht : 0 ≤ t ∧ t ≤ 1051898399) (hn : 0 ≤ need ∧ need ≤ 100000) :
    Calls Try.prog 53 #[v, .int .i64 id, .int .i64 t, .int .i64 need] w fun e w' => ∃ v N, e = .returned v ∧ yO1 id (Plt.g8 t need l) (decide (need ≤ Plt.zb6 (Plt.g8 t need l))) v N ∧ Rep w w' N ∧ ∀ x ∈ N, x.own = true := by
  obtain ⟨a0, c0, rfl, hc0, hop⟩ := h.open
  refine yc5 Try.func53 rfl Try.ntmps53 rfl (Rep.start w) ?_
  repeat' (first | ((first | apply w9 | apply y8 | apply x9); exact rfl; exact rfl) | ((first | apply s9 | apply x8 | apply z8 | apply s7 | apply s8 | apply w4 | apply z9 | apply w5)) | ((first | apply w6 | apply z6 | apply z0 | apply p7 | apply y0 | apply z7)))
  apply i9 (σ := Nat × List (Int × Int) × Int × (Option Addr × Nat) × List Ent) (Fs := fun s => [(11, .int .i64 s.1), (10, .slice s.2.2.2.1.1 (Plt.zd8 id s.2.1).length s.2.2.2.1.2), (3, .int .i64 s.2.2.1), (2, .int .i64 t), (1, .int .i64 id), (0, .slice a0 l.length c0)])
    (Ls := fun s => s.2.2.2.2 ++ []) (I := fun s => (s.1 ≤ l.length ∧ s.2.1.length ≤ s.1) ∧ Plt.g8 t need l = s.2.1 ++ Plt.g8 t s.2.2.1 (l.drop s.1) ∧ (s.2.2.1 = need - Plt.zb6 s.2.1 ∧ 0 ≤ s.2.2.1 ∧ s.2.2.1 ≤ 100000) ∧ OW 139 3 zj5 (.slice s.2.2.2.1.1 (Plt.zd8 id s.2.1).length s.2.2.2.1.2) (Plt.zd8 id s.2.1) s.2.2.2.2)
    (μ := fun s => l.length - s.1) (s0 := (0, [], need, (none, 0), []))
  · exact ⟨⟨Nat.zero_le _, Nat.le_refl _⟩, by simp, by simp [Plt.zb6]; omega, OW.nil⟩
  · exact fS_
  · exact hS_
  rintro ⟨i, out, left, ⟨ao, co⟩, NO⟩ ⟨⟨hi, hol⟩, hsl, ⟨hle, hl0, hl1⟩, hO⟩
  dsimp only at hi hol hsl hle hl0 hl1 hO ⊢
  have oO := hO.own
  have h3l := Plt.zl7 id out
  have hfin : l.drop i = [] ∨ left = 0 → Plt.g8 t need l = out ∧ decide (need ≤ Plt.zb6 (Plt.g8 t need l)) = decide (left ≤ 0) := fun h => by
    have e : Plt.g8 t need l = out := by
      rcases h with h | h
      · rw [hsl, h, Plt.g8, List.append_nil]
      · rw [hsl, h, Plt.zC7, List.append_nil]
    refine ⟨e, ?_⟩
    rw [e]
    exact decide_eq_decide.2 (by omega)
  by_cases hlt : i < l.length
  · by_cases hz : left = 0
    · obtain ⟨e1, e2⟩ := hfin (.inr hz)
      rw [e2, e1]
      subst hz
      repeat' (first | (apply v9; exact rfl; exact dF_) | (apply n9; exact rfl; exact dT_; exact rfl; exact rfl) | (apply j0; exact rfl; exact dT_) | ((first | apply w9 | apply y8 | apply x9); exact rfl; exact rfl) | ((first | apply p4 | apply zc0 | apply n0); exact rfl; exact rfl; exact rfl) | (apply n8; infer_instance; exact rfl; exact rfl) | ((first | apply s9 | apply x8 | apply z8 | apply s7 | apply s8 | apply w4 | apply z9 | apply w5)) | ((first | apply w6 | apply z6 | apply z0 | apply p7 | apply y0 | apply z7)))
      apply o0; apply zf8 Try.results53; exact rV_; exact rV_; intro w' hw
      exact ⟨_, NO, rfl, ⟨ao, co, rfl, hO, oO⟩, hw.sub (by exact hS_), oO⟩
    obtain ⟨⟨sf, su⟩, hx⟩ : ∃ s, l[i]? = some s := ⟨_, List.getElem?_eq_getElem hlt⟩
    have hsb := hb _ (List.mem_of_getElem? hx)
    dsimp only at hsb
    obtain ⟨b, off, cc, e, fz, rfl, hk, hp⟩ := hop (by omega)
    have g1 : ∀ j u, ([.int .i64 sf, .int .i64 su] : List Value)[j]? = some u → cc[off + i * 2 + j]? = some u := hp.get hx
    rw [drop_at hx, Plt.yf7 (by omega)] at hsl
    dsimp only at hsl
    clear hfin
    by_cases h1 : sf < t
    · by_cases h2 : t + left < su
      · rw [show max sf t = t by omega, show min su (t + left) = t + left by omega, if_pos (by omega)] at hsl
        have e1 := Plt.zy1 id out (t, t + left)
        dsimp only at e1
        as_aux_lemma =>
          repeat' (first | (apply v8; exact rfl; exact dT_) | (apply n9; exact rfl; exact dT_; exact rfl; exact rfl) | (apply j0; exact rfl; exact dT_) | (apply zd6 (enc := zj5) (ys := [((id, t, t + left))]); infer_instance; infer_instance; infer_instance; exact rfl; exact ze6; exact zw9; exact rfl; exact rfl; exact rfl; assumption; exact rL_; (exact fun w hw => SV.lit [((id, t, t + left))] ze6 hw (by exact aT_) rfl rfl (by decide)); (first | decide | (constructor <;> (try simp only [List.length_cons, List.length_nil]) <;> omega) | (constructor <;> simp <;> omega)); intro a_ cp_ N_ hO_; have oN_ := hO_.own; (try simp only [List.nil_append, List.append_assoc] at hO_); (try simp only [List.append_eq, List.append_assoc, List.cons_append, List.nil_append])) | ((first | apply w9 | apply y8 | apply x9); exact rfl; exact rfl) | ((first | apply p4 | apply zc0 | apply n0); exact rfl; exact rfl; exact rfl) | ((first | apply j8 | apply ze3); exact rfl; exact rfl; exact rfl; (constructor <;> omega)) | (apply g7; first | refine a8 (h := ?_)) | (apply n8; infer_instance; exact rfl; exact rfl) | (apply k8; refine i4 (h := fun _ => ?_)) | ((first | apply s9 | apply x8 | apply z8 | apply s7 | apply s8 | apply w4 | apply z9 | apply w5)) | ((first | apply w6 | apply z6 | apply z0 | apply p7 | apply y0 | apply z7)) | ((apply p8 (id := 5) []); kernel_rfl; kernel_rfl) | (apply za7; try simp only [zb1, List.cons_append, List.nil_append]) | ((first | apply g9 | apply m0 | apply m8); exact rfl; exact rfl) | (apply zb9; exact rfl; exact rfl) | (apply m5; first | refine k9 (h := ?_) | refine o7 (h := ?_) | refine m6 (h := ?_) | refine d6 (h := ?_) | refine f4 (h := ?_)) | (apply zc4; infer_instance; infer_instance; exact rfl; exact rfl; (first | exact rfl | omega); exact rfl; (first | assumption | omega | decide)))
          refine o9 (i + 1, out ++ [(t, t + left)], left - (t + left - (t)), (a_, cp_), N_) ⟨⟨by dsimp only; omega, by dsimp only; rw [List.length_append]; simp; omega⟩, by dsimp only; rw [hsl]; simp, ⟨by dsimp only; rw [Plt.zy2]; simp [Plt.zb6]; omega, by dsimp only; omega, by dsimp only; omega⟩, by dsimp only; rw [e1]; exact hO_⟩ (by dsimp only; omega) ?_ ?_
          · dsimp only; rw [e1]; exact fS_
          · exact hS_
      · by_cases h3 : t < su
        · rw [show max sf t = t by omega, show min su (t + left) = su by omega, if_pos (by omega)] at hsl
          have e1 := Plt.zy1 id out (t, su)
          dsimp only at e1
          as_aux_lemma =>
            repeat' (first | (apply v8; exact rfl; exact dT_) | (apply v9; exact rfl; exact dF_) | (apply n9; exact rfl; exact dT_; exact rfl; exact rfl) | (apply j0; exact rfl; exact dT_) | (apply zd6 (enc := zj5) (ys := [((id, t, su))]); infer_instance; infer_instance; infer_instance; exact rfl; exact ze6; exact zw9; exact rfl; exact rfl; exact rfl; assumption; exact rL_; (exact fun w hw => SV.lit [((id, t, su))] ze6 hw (by exact aT_) rfl rfl (by decide)); (first | decide | (constructor <;> (try simp only [List.length_cons, List.length_nil]) <;> omega) | (constructor <;> simp <;> omega)); intro a_ cp_ N_ hO_; have oN_ := hO_.own; (try simp only [List.nil_append, List.append_assoc] at hO_); (try simp only [List.append_eq, List.append_assoc, List.cons_append, List.nil_append])) | ((first | apply w9 | apply y8 | apply x9); exact rfl; exact rfl) | ((first | apply p4 | apply zc0 | apply n0); exact rfl; exact rfl; exact rfl) | ((first | apply j8 | apply ze3); exact rfl; exact rfl; exact rfl; (constructor <;> omega)) | (apply g7; first | refine a8 (h := ?_)) | (apply n8; infer_instance; exact rfl; exact rfl) | (apply k8; refine i4 (h := fun _ => ?_)) | ((first | apply s9 | apply x8 | apply z8 | apply s7 | apply s8 | apply w4 | apply z9 | apply w5)) | ((first | apply w6 | apply z6 | apply z0 | apply p7 | apply y0 | apply z7)) | ((apply p8 (id := 5) []); kernel_rfl; kernel_rfl) | (apply za7; try simp only [zb1, List.cons_append, List.nil_append]) | ((first | apply g9 | apply m0 | apply m8); exact rfl; exact rfl) | (apply zb9; exact rfl; exact rfl) | (apply m5; first | refine k9 (h := ?_) | refine o7 (h := ?_) | refine m6 (h := ?_) | refine d6 (h := ?_) | refine f4 (h := ?_)) | (apply zc4; infer_instance; infer_instance; exact rfl; exact rfl; (first | exact rfl | omega); exact rfl; (first | assumption | omega | decide)))
            refine o9 (i + 1, out ++ [(t, su)], left - (su - (t)), (a_, cp_), N_) ⟨⟨by dsimp only; omega, by dsimp only; rw [List.length_append]; simp; omega⟩, by dsimp only; rw [hsl]; simp, ⟨by dsimp only; rw [Plt.zy2]; simp [Plt.zb6]; omega, by dsimp only; omega, by dsimp only; omega⟩, by dsimp only; rw [e1]; exact hO_⟩ (by dsimp only; omega) ?_ ?_
            · dsimp only; rw [e1]; exact fS_
            · exact hS_
        · rw [show max sf t = t by omega, show min su (t + left) = su by omega, if_neg (by omega)] at hsl
          as_aux_lemma =>
            repeat' (first | (apply v8; exact rfl; exact dT_) | (apply v9; exact rfl; exact dF_) | (apply n9; exact rfl; exact dT_; exact rfl; exact rfl) | (apply j0; exact rfl; exact dT_) | ((first | apply w9 | apply y8 | apply x9); exact rfl; exact rfl) | ((first | apply p4 | apply zc0 | apply n0); exact rfl; exact rfl; exact rfl) | ((first | apply j8 | apply ze3); exact rfl; exact rfl; exact rfl; (constructor <;> omega)) | (apply n8; infer_instance; exact rfl; exact rfl) | ((first | apply s9 | apply x8 | apply z8 | apply s7 | apply s8 | apply w4 | apply z9 | apply w5)) | ((first | apply w6 | apply z6 | apply z0 | apply p7 | apply y0 | apply z7)) | ((apply p8 (id := 5) []); kernel_rfl; kernel_rfl) | (apply za7; try simp only [zb1, List.cons_append, List.nil_append]) | ((first | apply g9 | apply m0 | apply m8); exact rfl; exact rfl) | (apply zb9; exact rfl; exact rfl) | (apply m5; first | refine k9 (h := ?_) | refine o7 (h := ?_) | refine m6 (h := ?_) | refine d6 (h := ?_) | refine f4 (h := ?_)) | (apply zc4; infer_instance; infer_instance; exact rfl; exact rfl; (first | exact rfl | omega); exact rfl; (first | assumption | omega | decide)))
            refine o9 (i + 1, out, left, (ao, co), NO) ⟨⟨by dsimp only; omega, by dsimp only; omega⟩, hsl, ⟨hle, hl0, hl1⟩, hO⟩ (by dsimp only; omega) ?_ ?_
            · exact fS_
            · exact hS_
    · by_cases h2 : sf + left < su
      · rw [show max sf t = sf by omega, show min su (sf + left) = sf + left by omega, if_pos (by omega)] at hsl
        have e1 := Plt.zy1 id out (sf, sf + left)
        dsimp only at e1
        as_aux_lemma =>
          repeat' (first | (apply v8; exact rfl; exact dT_) | (apply v9; exact rfl; exact dF_) | (apply n9; exact rfl; exact dT_; exact rfl; exact rfl) | (apply j0; exact rfl; exact dT_) | (apply zd6 (enc := zj5) (ys := [((id, sf, sf + left))]); infer_instance; infer_instance; infer_instance; exact rfl; exact ze6; exact zw9; exact rfl; exact rfl; exact rfl; assumption; exact rL_; (exact fun w hw => SV.lit [((id, sf, sf + left))] ze6 hw (by exact aT_) rfl rfl (by decide)); (first | decide | (constructor <;> (try simp only [List.length_cons, List.length_nil]) <;> omega) | (constructor <;> simp <;> omega)); intro a_ cp_ N_ hO_; have oN_ := hO_.own; (try simp only [List.nil_append, List.append_assoc] at hO_); (try simp only [List.append_eq, List.append_assoc, List.cons_append, List.nil_append])) | ((first | apply w9 | apply y8 | apply x9); exact rfl; exact rfl) | ((first | apply p4 | apply zc0 | apply n0); exact rfl; exact rfl; exact rfl) | ((first | apply j8 | apply ze3); exact rfl; exact rfl; exact rfl; (constructor <;> omega)) | (apply g7; first | refine a8 (h := ?_)) | (apply n8; infer_instance; exact rfl; exact rfl) | (apply k8; refine i4 (h := fun _ => ?_)) | ((first | apply s9 | apply x8 | apply z8 | apply s7 | apply s8 | apply w4 | apply z9 | apply w5)) | ((first | apply w6 | apply z6 | apply z0 | apply p7 | apply y0 | apply z7)) | ((apply p8 (id := 5) []); kernel_rfl; kernel_rfl) | (apply za7; try simp only [zb1, List.cons_append, List.nil_append]) | ((first | apply g9 | apply m0 | apply m8); exact rfl; exact rfl) | (apply zb9; exact rfl; exact rfl) | (apply m5; first | refine k9 (h := ?_) | refine o7 (h := ?_) | refine m6 (h := ?_) | refine d6 (h := ?_) | refine f4 (h := ?_)) | (apply zc4; infer_instance; infer_instance; exact rfl; exact rfl; (first | exact rfl | omega); exact rfl; (first | assumption | omega | decide)))
          refine o9 (i + 1, out ++ [(sf, sf + left)], left - (sf + left - (sf)), (a_, cp_), N_) ⟨⟨by dsimp only; omega, by dsimp only; rw [List.length_append]; simp; omega⟩, by dsimp only; rw [hsl]; simp, ⟨by dsimp only; rw [Plt.zy2]; simp [Plt.zb6]; omega, by dsimp only; omega, by dsimp only; omega⟩, by dsimp only; rw [e1]; exact hO_⟩ (by dsimp only; omega) ?_ ?_
          · dsimp only; rw [e1]; exact fS_
          · exact hS_
      · rw [show max sf t = sf by omega, show min su (sf + left) = su by omega, if_pos (by omega)] at hsl
        have e1 := Plt.zy1 id out (sf, su)
        dsimp only at e1
        as_aux_lemma =>
          repeat' (first | (apply v8; exact rfl; exact dT_) | (apply v9; exact rfl; exact dF_) | (apply n9; exact rfl; exact dT_; exact rfl; exact rfl) | (apply j0; exact rfl; exact dT_) | (apply zd6 (enc := zj5) (ys := [((id, sf, su))]); infer_instance; infer_instance; infer_instance; exact rfl; exact ze6; exact zw9; exact rfl; exact rfl; exact rfl; assumption; exact rL_; (exact fun w hw => SV.lit [((id, sf, su))] ze6 hw (by exact aT_) rfl rfl (by decide)); (first | decide | (constructor <;> (try simp only [List.length_cons, List.length_nil]) <;> omega) | (constructor <;> simp <;> omega)); intro a_ cp_ N_ hO_; have oN_ := hO_.own; (try simp only [List.nil_append, List.append_assoc] at hO_); (try simp only [List.append_eq, List.append_assoc, List.cons_append, List.nil_append])) | ((first | apply w9 | apply y8 | apply x9); exact rfl; exact rfl) | ((first | apply p4 | apply zc0 | apply n0); exact rfl; exact rfl; exact rfl) | ((first | apply j8 | apply ze3); exact rfl; exact rfl; exact rfl; (constructor <;> omega)) | (apply g7; first | refine a8 (h := ?_)) | (apply n8; infer_instance; exact rfl; exact rfl) | (apply k8; refine i4 (h := fun _ => ?_)) | ((first | apply s9 | apply x8 | apply z8 | apply s7 | apply s8 | apply w4 | apply z9 | apply w5)) | ((first | apply w6 | apply z6 | apply z0 | apply p7 | apply y0 | apply z7)) | ((apply p8 (id := 5) []); kernel_rfl; kernel_rfl) | (apply za7; try simp only [zb1, List.cons_append, List.nil_append]) | ((first | apply g9 | apply m0 | apply m8); exact rfl; exact rfl) | (apply zb9; exact rfl; exact rfl) | (apply m5; first | refine k9 (h := ?_) | refine o7 (h := ?_) | refine m6 (h := ?_) | refine d6 (h := ?_) | refine f4 (h := ?_)) | (apply zc4; infer_instance; infer_instance; exact rfl; exact rfl; (first | exact rfl | omega); exact rfl; (first | assumption | omega | decide)))
          refine o9 (i + 1, out ++ [(sf, su)], left - (su - (sf)), (a_, cp_), N_) ⟨⟨by dsimp only; omega, by dsimp only; rw [List.length_append]; simp; omega⟩, by dsimp only; rw [hsl]; simp, ⟨by dsimp only; rw [Plt.zy2]; simp [Plt.zb6]; omega, by dsimp only; omega, by dsimp only; omega⟩, by dsimp only; rw [e1]; exact hO_⟩ (by dsimp only; omega) ?_ ?_
          · dsimp only; rw [e1]; exact fS_
          · exact hS_
  obtain ⟨e1, e2⟩ := hfin (.inl (List.drop_of_length_le (by omega)))
  rw [e2, e1]
  repeat' (first | (apply p9; exact rfl; exact dF_; exact rfl; exact rfl) | (apply za2; exact rfl; exact dF_; exact rfl) | ((first | apply w9 | apply y8 | apply x9); exact rfl; exact rfl) | ((first | apply p4 | apply zc0 | apply n0); exact rfl; exact rfl; exact rfl) | (apply n8; infer_instance; exact rfl; exact rfl) | ((first | apply s9 | apply x8 | apply z8 | apply s7 | apply s8 | apply w4 | apply z9 | apply w5)) | (apply v9; exact rfl; exact fF_) | ((first | apply w6 | apply z6 | apply z0 | apply p7 | apply y0 | apply z7)))
  apply o0; apply zf8 Try.results53; exact rV_; exact rV_; intro w' hw
  exact ⟨_, NO, rfl, ⟨ao, co, rfl, hO, oO⟩, hw.sub (by exact hS_), oO⟩
theorem zS1 {q : PlD} {p : Plt.i8} {i : Nat} {y : Plt.za3} {d : PD} {k : Nat} {z : Plt.Item} (hv : Plt.Valid p) (hy : p.passes[i]? = some y) (hz : p.items[k]? = some z) (w : World) (h : PlV w q p) (hd : PassV w d y) :
    Calls Try.prog 54 #[plV q, .agg #[.int .i64 d.id, .int .i64 d.mach, .int .i64 d.rel, sdV d.src, sdV d.table, sdV d.unread], .int .i64 z.id] w fun e w' => e = .returned (.int .i64 (Plt.zb8 (Plt.zc1 p.items) y z.id).st) ∧ Below w.heap.size w w' := by
  have hV := h
  obtain ⟨⟨a1, n1, c1⟩, ⟨a2, n2, c2⟩, ⟨a3, n3, c3⟩, ds, ys⟩ := q
  obtain ⟨hM, hI, hP, lm, lp, hmach, hpass⟩ := h
  dsimp only [sdV, plV] at hM hI hP lm lp hmach hpass ⊢
  obtain ⟨_, _, e1, hc1, hop1⟩ := hM.open
  cases e1
  obtain ⟨_, _, e2, hc2, hop2⟩ := hI.open
  cases e2
  obtain ⟨_, _, e3, hc3, hop3⟩ := hP.open
  cases e3
  rw [lm] at hc1 hop1 hM hV ⊢
  rw [lp] at hc3 hop3 hP hV ⊢
  obtain ⟨x1, k1, x2, k2, x3, k3, rfl⟩ := hd.eqs
  obtain ⟨-, -, -, hsrc, htab, hunr⟩ := hd
  dsimp only [sdV] at hsrc htab hunr ⊢
  obtain ⟨_, _, e5, hc5, hop5⟩ := htab.open
  cases e5
  obtain ⟨_, _, e6, hc6, hop6⟩ := hunr.open
  cases e6
  have hrn := Plt.rows_nodup (hv.pok i y hy).2.2.2
  have hnd := hrn.1
  have hsz := (hv.pok i y hy).2.2.1
  have hkl := (List.getElem?_eq_some_iff.1 hz).1
  have hzm : (p.items.map Plt.Item.id)[k]? = some z.id := by rw [List.getElem?_map, hz]; rfl
  have hzp : Plt.zj1 z.id (p.items.map Plt.Item.id) = (k : Int) := by
    rw [Plt.zB8 hzm]
    intro hm
    obtain ⟨n, hn⟩ := List.getElem?_of_mem hm
    have hnl := (List.getElem?_eq_some_iff.1 hn).1
    rw [List.length_take] at hnl
    rw [List.getElem?_take_of_lt (by omega)] at hn
    have := (List.getElem?_inj (List.getElem?_eq_some_iff.1 hn).1 hv.ind).1 (hn.trans hzm.symm)
    omega
  obtain ⟨b2, off2, cc2, ee2, fz2, rfl, hk2, hp2⟩ := hop2 (by omega)
  have gz : ∀ j u, ([.int .i64 z.id, .int .i64 z.stop, .int .i64 z.batch] : List Value)[j]? = some u → cc2[off2 + k * 3 + j]? = some u := hp2.get hz
  obtain ⟨st, hst⟩ : ∃ st, (Plt.zb8 (Plt.zc1 p.items) y z.id).st = st := ⟨_, rfl⟩
  rw [hst]
  refine zd5 Try.func54 rfl Try.ntmps54 rfl (Rep.start w) ?_
  repeat' (first | ((first | apply w9 | apply y8 | apply x9); exact rfl; exact rfl) | (apply zc3; exact rfl; exact rfl; exact rfl; intro _) | ((first | apply s9 | apply x8 | apply z8 | apply s7 | apply s8 | apply w4 | apply z9 | apply w5)) | ((first | apply w6 | apply z6 | apply z0 | apply p7 | apply y0 | apply z7)))
  rename_i b3 b4
  apply i9 (σ := Nat) (Fs := fun n => [(7, .int .i64 n), (4, ptr b4), (3, ptr b3), (2, .int .i64 z.id)]) (Ls := fun _ => ⟨b4, Ce [.int .i64 y.id, .int .i64 y.mach, .int .i64 y.rel, .slice x1 y.src.length k1, .slice x2 y.table.length k2, .slice x3 y.unread.length k3] 93, true⟩ :: ⟨b3, Ce [.slice a1 p.ms.length c1, .slice (some ⟨b2, off2, none⟩) p.items.length c2, .slice a3 p.passes.length c3] 33, true⟩ :: []) (I := fun n => n ≤ y.unread.length ∧ ∀ x ∈ y.unread.take n, x ≠ z.id) (μ := fun n => y.unread.length - n) (s0 := 0)
  · exact ⟨Nat.zero_le _, by simp⟩
  · exact fS_
  · exact hS_
  rintro n ⟨hn, hne⟩
  by_cases hlt : n < y.unread.length
  · obtain ⟨u, hx⟩ : ∃ s, y.unread[n]? = some s := ⟨_, List.getElem?_eq_getElem hlt⟩
    obtain ⟨b, off, cc, e, fz, rfl, hk, hp⟩ := hop6 (by omega)
    have g1 := hp.one hx rfl
    by_cases hu : u = z.id
    · rw [Plt.yc6 (by rw [← hu]; exact List.mem_of_getElem? hx)] at hst
      subst hst
      as_aux_lemma =>
        repeat' (first | (apply v8; exact rfl; exact dT_) | ((first | apply w9 | apply y8 | apply x9); exact rfl; exact rfl) | (apply w7; first | refine u9 (h := ?_) | refine y9 (h := ?_) | refine w8 (h := ?_) | refine q7 (h := ?_) | refine q6 (h := ?_)) | ((first | apply p4 | apply m9); exact rfl; exact rfl; exact rfl) | (apply n8; infer_instance; exact rfl; exact rfl) | (apply l0; infer_instance; infer_instance; exact rfl; exact rfl; (first | exact rfl | omega); exact rfl; (first | assumption | omega | decide)) | ((first | apply s9 | apply x8 | apply z8 | apply s7 | apply s8 | apply w4 | apply z9 | apply w5)) | ((first | apply w6 | apply z6 | apply z0 | apply p7 | apply y0 | apply z7)))
        apply o0; apply za8 Try.results54; exact rV_; intro w' hw
        exact ⟨rfl, hw.below (by simp)⟩
    · as_aux_lemma =>
        repeat' (first | (apply v8; exact rfl; exact dT_) | (apply v9; exact rfl; exact dF_) | ((first | apply w9 | apply y8 | apply x9); exact rfl; exact rfl) | (apply w7; first | refine u9 (h := ?_) | refine y9 (h := ?_) | refine w8 (h := ?_) | refine q7 (h := ?_) | refine q6 (h := ?_)) | ((first | apply p4 | apply m9); exact rfl; exact rfl; exact rfl) | (apply j8; exact rfl; exact rfl; exact rfl; (constructor <;> omega)) | (apply n8; infer_instance; exact rfl; exact rfl) | (apply l0; infer_instance; infer_instance; exact rfl; exact rfl; (first | exact rfl | omega); exact rfl; (first | assumption | omega | decide)) | ((first | apply s9 | apply x8 | apply z8 | apply s7 | apply s8 | apply w4 | apply z9 | apply w5)) | ((first | apply w6 | apply z6 | apply z0 | apply p7 | apply y0 | apply z7)))
        refine o9 (n + 1) ⟨by omega, zg8 hx hne hu⟩ (by omega) ?_ ?_
        · exact fS_
        · exact hS_
  rw [List.take_of_length_le (by omega)] at hne
  have hur : z.id ∉ y.unread := fun hm => hne _ hm rfl
  repeat' (first | (apply v9; exact rfl; exact dF_) | ((first | apply w9 | apply y8 | apply x9); exact rfl; exact rfl) | (apply w7; first | refine u9 (h := ?_) | refine y9 (h := ?_) | refine w8 (h := ?_) | refine q7 (h := ?_) | refine q6 (h := ?_)) | ((first | apply p4 | apply m9); exact rfl; exact rfl; exact rfl) | (apply n8; infer_instance; exact rfl; exact rfl) | ((first | apply s9 | apply x8 | apply z8 | apply s7 | apply s8 | apply w4 | apply z9 | apply w5)) | ((first | apply w6 | apply z6 | apply z0 | apply p7 | apply y0 | apply z7)))
  apply i9 (σ := Nat) (Fs := fun n => [(8, .int .i64 n), (4, ptr b4), (3, ptr b3), (2, .int .i64 z.id)]) (Ls := fun _ => ⟨b4, Ce [.int .i64 y.id, .int .i64 y.mach, .int .i64 y.rel, .slice x1 y.src.length k1, .slice x2 y.table.length k2, .slice x3 y.unread.length k3] 93, true⟩ :: ⟨b3, Ce [.slice a1 p.ms.length c1, .slice (some ⟨b2, off2, none⟩) p.items.length c2, .slice a3 p.passes.length c3] 33, true⟩ :: []) (I := fun n => n ≤ y.table.length ∧ ∀ s ∈ (y.table.map Plt.Row.stop).take n, s ≠ z.stop) (μ := fun n => y.table.length - n) (s0 := 0)
  · exact ⟨Nat.zero_le _, by simp⟩
  · exact fS_
  · exact hS_
  rintro m ⟨hm, hme⟩
  by_cases hml : m < y.table.length
  · obtain ⟨⟨es, et⟩, hx⟩ : ∃ s, y.table[m]? = some s := ⟨_, List.getElem?_eq_getElem hml⟩
    obtain ⟨b, off, cc, e, fz, rfl, hk, hp⟩ := hop5 (by omega)
    have g1 : ∀ j u, ([.int .i64 es, .int .i64 et] : List Value)[j]? = some u → cc[off + m * 2 + j]? = some u := hp.get hx
    have hmm : (y.table.map Plt.Row.stop)[m]? = some es := by rw [List.getElem?_map, hx]; rfl
    by_cases he : es = z.stop
    · rw [Plt.yv1 hv hnd hz hur (List.mem_of_getElem? hx) he] at hst
      subst hst
      as_aux_lemma =>
        repeat' (first | (apply v8; exact rfl; exact dT_) | ((first | ((apply t8 (f := 22)); exact rfl) | ((apply t9 (f := 22)); exact rfl; kernel_rfl; exact rfl; exact sJ_)); exact eV_; exact (fun w hw => zr8 hzp w (hV.keep hw (by exact aO_)))) | ((first | apply w9 | apply y8 | apply x9); exact rfl; exact rfl) | (apply za9; exact rfl; exact rfl) | (apply w7; first | refine u9 (h := ?_) | refine y9 (h := ?_) | refine w8 (h := ?_) | refine q7 (h := ?_) | refine q6 (h := ?_)) | ((first | apply p4 | apply m9); exact rfl; exact rfl; exact rfl) | (apply n8; infer_instance; exact rfl; exact rfl) | (apply l0; infer_instance; infer_instance; exact rfl; exact rfl; (first | exact rfl | omega); exact rfl; (first | assumption | omega | decide)) | ((first | apply s9 | apply x8 | apply z8 | apply s7 | apply s8 | apply w4 | apply z9 | apply w5)) | ((first | apply w6 | apply z6 | apply z0 | apply p7 | apply y0 | apply z7)) | ((apply p8 (id := 9) []); kernel_rfl; kernel_rfl) | (apply za7; try simp only [zb1, List.cons_append, List.nil_append]) | ((first | apply g9 | apply m0 | apply m8); exact rfl; exact rfl) | (apply zb9; exact rfl; exact rfl) | (apply m5; first | refine k9 (h := ?_) | refine o7 (h := ?_) | refine m6 (h := ?_) | refine d6 (h := ?_) | refine f4 (h := ?_)) | ((first | apply ze7 | apply zi1); exact rfl; exact rfl; exact rfl) | (apply zc4; infer_instance; infer_instance; exact rfl; exact rfl; (first | exact rfl | omega); exact rfl; (first | assumption | omega | decide)))
        apply o0; apply za8 Try.results54; exact rV_; intro w' hw
        exact ⟨rfl, hw.below (by simp)⟩
    · as_aux_lemma =>
        repeat' (first | (apply v8; exact rfl; exact dT_) | (apply v9; exact rfl; exact dF_) | ((first | ((apply t8 (f := 22)); exact rfl) | ((apply t9 (f := 22)); exact rfl; kernel_rfl; exact rfl; exact sJ_)); exact eV_; exact (fun w hw => zr8 hzp w (hV.keep hw (by exact aO_)))) | ((first | apply w9 | apply y8 | apply x9); exact rfl; exact rfl) | (apply w7; first | refine u9 (h := ?_) | refine y9 (h := ?_) | refine w8 (h := ?_) | refine q7 (h := ?_) | refine q6 (h := ?_)) | ((first | apply p4 | apply m9); exact rfl; exact rfl; exact rfl) | (apply j8; exact rfl; exact rfl; exact rfl; (constructor <;> omega)) | (apply n8; infer_instance; exact rfl; exact rfl) | ((first | apply s9 | apply x8 | apply z8 | apply s7 | apply s8 | apply w4 | apply z9 | apply w5)) | ((first | apply w6 | apply z6 | apply z0 | apply p7 | apply y0 | apply z7)) | ((apply p8 (id := 9) []); kernel_rfl; kernel_rfl) | (apply za7; try simp only [zb1, List.cons_append, List.nil_append]) | ((first | apply g9 | apply m0 | apply m8); exact rfl; exact rfl) | (apply zb9; exact rfl; exact rfl) | (apply m5; first | refine k9 (h := ?_) | refine o7 (h := ?_) | refine m6 (h := ?_) | refine d6 (h := ?_) | refine f4 (h := ?_)) | ((first | apply ze7 | apply zi1); exact rfl; exact rfl; exact rfl) | (apply zc4; infer_instance; infer_instance; exact rfl; exact rfl; (first | exact rfl | omega); exact rfl; (first | assumption | omega | decide)))
        refine o9 (m + 1) ⟨by omega, zg8 hmm hme he⟩ (by omega) ?_ ?_
        · exact fS_
        · exact hS_
  rw [List.take_of_length_le (by rw [List.length_map]; omega)] at hme
  rw [Plt.yC0 hv hnd hz hur (fun g => hme _ g rfl)] at hst
  subst hst
  repeat' (first | (apply v9; exact rfl; exact dF_) | ((first | apply w9 | apply y8 | apply x9); exact rfl; exact rfl) | (apply w7; first | refine u9 (h := ?_) | refine y9 (h := ?_) | refine w8 (h := ?_) | refine q7 (h := ?_) | refine q6 (h := ?_)) | ((first | apply p4 | apply m9); exact rfl; exact rfl; exact rfl) | (apply n8; infer_instance; exact rfl; exact rfl) | ((first | apply s9 | apply x8 | apply z8 | apply s7 | apply s8 | apply w4 | apply z9 | apply w5)) | ((first | apply w6 | apply z6 | apply z0 | apply p7 | apply y0 | apply z7)))
  apply o0; apply za8 Try.results54; exact rV_; intro w' hw
  exact ⟨rfl, hw.below (by simp)⟩
end Go.Proofs.Ytdahckhlfldkkaa
namespace Go.Proofs.Ytdahckhlfldkkaa
open Go Go.Sx Go.RowKit
attribute [local irreducible] WL WC WQ WR WB WF QB St Exit.then Exit.inBlock Exit.noGoto bodyPost roundPost zc9 YR RG BM Calls B zd4 zf2
theorem zX3 {dp ds df : Int} {x1 x2 x3 x4 x5 x6 x7 : Option Addr} {n1 k1 n2 k2 n3 k3 n4 k4 n5 k5 n6 k6 n7 k7 : Nat} {r : Plt.Run} {x rate t : Int} {b : Bool} (hso : Plt.zn4 r x rate t = b) (hrate : 1 ≤ rate ∧ rate ≤ 1000000) (hb : ∀ s ∈ r.slices, 0 ≤ s.1 ∧ s.1 ≤ s.2 ∧ s.2 ≤ 1051898399) (hn : r.slices.length ≤ 100000) (w : World)
    (h : RunV w ⟨dp, ds, df, (x1, n1, k1), (x2, n2, k2), (x3, n3, k3), (x4, n4, k4), (x5, n5, k5), (x6, n6, k6), (x7, n7, k7)⟩ r) : Calls Try.prog 29 #[.agg #[.int .i64 dp, .int .i64 ds, .int .i64 df, .slice x1 n1 k1, .slice x2 n2 k2, .slice x3 n3 k3, .slice x4 n4 k4, .slice x5 n5 k5, .slice x6 n6 k6, .slice x7 n7 k7], .int .i64 x, .int .i64 rate, .int .i64 t] w fun e w' => e = .returned (.bool b) ∧ Below w.heap.size w w' := by
  subst hso; exact ya3 hrate hb hn w h
theorem yx9 {dp ds df : Int} {x1 x2 x3 x4 x5 x6 x7 : Option Addr} {n1 k1 n2 k2 n3 k3 n4 k4 n5 k5 n6 k6 n7 k7 : Nat} {r : Plt.Run} {x kd ps nu : Int} (he : Plt.zq0 r x = (kd, ps, nu)) (w : World)
    (h : RunV w ⟨dp, ds, df, (x1, n1, k1), (x2, n2, k2), (x3, n3, k3), (x4, n4, k4), (x5, n5, k5), (x6, n6, k6), (x7, n7, k7)⟩ r) : Calls Try.prog 30 #[.agg #[.int .i64 dp, .int .i64 ds, .int .i64 df, .slice x1 n1 k1, .slice x2 n2 k2, .slice x3 n3 k3, .slice x4 n4 k4, .slice x5 n5 k5, .slice x6 n6 k6, .slice x7 n7 k7], .int .i64 x] w fun e w' => e = .returned (.agg #[.int .u8 kd, .int .i64 ps, .int .i64 nu]) ∧ Below w.heap.size w w' := yd8 he w h
set_option maxHeartbeats 8000000 in
set_option maxRecDepth 100000 in
theorem zN4 {q : PlD} {p : Plt.i8} {x t kd ps nu k : Int} (hc : Plt.Calm p) (he : Plt.zk6 p x t = ((kd, ps, nu), k)) (w : World) (h : PlV w q p) : Calls Try.prog 9 #[plV q, .int .i64 x, .int .i64 t] w fun e w' => e = .returned (.tuple #[.agg #[.int .u8 kd, .int .i64 ps, .int .i64 nu], .int .i64 k]) ∧ Below w.heap.size w w' := by
  have hV := h
  obtain ⟨⟨a1_, n1, c1⟩, ⟨a2, n2, c2⟩, ⟨a3, n3, c3⟩, ds, ys⟩ := q
  obtain ⟨hM, hI, hP, lm, lp, hmach, hpass⟩ := h
  dsimp only [sdV, plV] at hM hI hP lm lp hmach hpass ⊢
  obtain ⟨_, _, e1, hc1, hop1⟩ := hM.open
  cases e1
  obtain ⟨_, _, e2, hc2, hop2⟩ := hI.open
  cases e2
  obtain ⟨_, _, e3, hc3, hop3⟩ := hP.open
  cases e3
  rw [lm] at hM hop1 hc1 ⊢
  rw [lp] at hP hop3 hc3 ⊢
  have hV2 : PlV w ⟨(a1_, p.ms.length, c1), (a2, p.items.length, c2), (a3, p.passes.length, c3), ds, ys⟩ p := by
    refine ⟨?_, hI, ?_, lm, lp, hmach, hpass⟩
    · dsimp only [sdV]; exact hM
    · dsimp only [sdV]; exact hP
  clear hV
  have hplay := fun (w' : World) (L : List Ent) (hw : Rep w w' L) (ho : AO L) => (zz5 hc w' (hV2.keep hw ho) : Calls Try.prog 16 #[.agg #[.slice a1_ p.ms.length c1, .slice a2 p.items.length c2, .slice a3 p.passes.length c3]] w' _)
  have hpl0 := Plt.zh4 p
  unfold Plt.zk6 at he
  cases hz0 : Plt.zn5 x (p.items.map Plt.Item.id) with
  | none =>
    have hz : Plt.zu7 x (p.items.map Plt.Item.id) = -1 := by unfold Plt.zu7; rw [hz0]
    rw [hz0] at he
    cases he
    as_aux_lemma =>
      refine zx0 Try.func9 rfl Try.ntmps9 rfl (Rep.start w) ?_
      repeat' (first | (apply v8; exact rfl; exact dT_) | (apply v9; exact rfl; exact dF_) | ((first | ((apply d7 (f := 16)); exact rfl) | ((apply d8 (f := 16)); exact rfl; exact rfl; exact sJ_)); exact eV_; exact (fun w hw => hplay w _ hw (by exact aO_)); rintro v N ⟨ar, cr, rds, rfl, ⟨hsh, hrl⟩, oN⟩ <;> (try simp only [List.cons_append, List.nil_append])) | ((first | ((apply t8 (f := 26)); exact rfl) | ((apply t9 (f := 26)); exact rfl; kernel_rfl; exact rfl; exact sJ_)); exact eV_; exact (fun w hw => zs5 hz w (hI.keep hw (by exact aO_)) (hw.at (by exact aT_)))) | ((first | apply w9 | apply y8 | apply x9); exact rfl; exact rfl) | (apply w7; first | refine u9 (h := ?_) | refine y9 (h := ?_) | refine w8 (h := ?_) | refine q7 (h := ?_) | refine q6 (h := ?_)) | ((first | apply p4 | apply n0 | apply l8 | apply p5); exact rfl; exact rfl; exact rfl) | ((first | apply o8 | apply c8); exact rfl; intro _) | (apply zc3; exact rfl; exact rfl; exact rfl; intro _) | (apply q8; first | refine q9 (h := ?_) | refine p3 (h := ?_)) | (apply g7; first | refine a8 (h := ?_)) | (apply zj7; refine zA3 (h := ?_)) | ((first | apply s9 | apply x8 | apply z8 | apply s7 | apply s8 | apply w4 | apply z9 | apply w5)) | ((first | apply w6 | apply z6 | apply z0 | apply p7 | apply y0 | apply z7)))
      (first | (apply zU0; exact aT_; exact uP_; apply zf8 Try.results9; exact rV_; exact rV_; intro w' hw) | (apply zT9; apply zf8 Try.results9; exact rV_; exact rV_; intro w' hw))
      exact ⟨rfl, hw.below (show AO _ by exact aO_)⟩
  | some k0 =>
  have hz : Plt.zu7 x (p.items.map Plt.Item.id) = (k0 : Int) := by unfold Plt.zu7; rw [hz0]
  have hkl : k0 < p.items.length := by
    have := (List.getElem?_eq_some_iff.1 (Plt.zp8 hz0).1).1
    simpa using this
  rw [hz0] at he
  dsimp only at he
  by_cases ht0 : t < 0
  · rw [if_pos ht0] at he
    cases he
    as_aux_lemma =>
      refine zx0 Try.func9 rfl Try.ntmps9 rfl (Rep.start w) ?_
      repeat' (first | (apply v8; exact rfl; exact dT_) | (apply v9; exact rfl; exact dF_) | ((first | ((apply d7 (f := 16)); exact rfl) | ((apply d8 (f := 16)); exact rfl; exact rfl; exact sJ_)); exact eV_; exact (fun w hw => hplay w _ hw (by exact aO_)); rintro v N ⟨ar, cr, rds, rfl, ⟨hsh, hrl⟩, oN⟩ <;> (try simp only [List.cons_append, List.nil_append])) | ((first | ((apply t8 (f := 26)); exact rfl) | ((apply t9 (f := 26)); exact rfl; kernel_rfl; exact rfl; exact sJ_)); exact eV_; exact (fun w hw => zs5 hz w (hI.keep hw (by exact aO_)) (hw.at (by exact aT_)))) | ((first | apply w9 | apply y8 | apply x9); exact rfl; exact rfl) | (apply w7; first | refine u9 (h := ?_) | refine y9 (h := ?_) | refine w8 (h := ?_) | refine q7 (h := ?_) | refine q6 (h := ?_)) | ((first | apply p4 | apply n0 | apply l8 | apply p5); exact rfl; exact rfl; exact rfl) | ((first | apply o8 | apply c8); exact rfl; intro _) | (apply zc3; exact rfl; exact rfl; exact rfl; intro _) | (apply q8; first | refine q9 (h := ?_) | refine p3 (h := ?_)) | (apply g7; first | refine a8 (h := ?_)) | (apply zj7; refine zA3 (h := ?_)) | ((first | apply s9 | apply x8 | apply z8 | apply s7 | apply s8 | apply w4 | apply z9 | apply w5)) | ((first | apply w6 | apply z6 | apply z0 | apply p7 | apply y0 | apply z7)))
      (first | (apply zU0; exact aT_; exact uP_; apply zf8 Try.results9; exact rV_; exact rV_; intro w' hw) | (apply zT9; apply zf8 Try.results9; exact rV_; exact rV_; intro w' hw))
      exact ⟨rfl, hw.below (show AO _ by exact aO_)⟩
  rw [if_neg ht0] at he
  by_cases ht1 : 1051898399 < t
  · rw [if_pos ht1] at he
    cases he
    as_aux_lemma =>
      refine zx0 Try.func9 rfl Try.ntmps9 rfl (Rep.start w) ?_
      repeat' (first | (apply v8; exact rfl; exact dT_) | (apply v9; exact rfl; exact dF_) | ((first | ((apply d7 (f := 16)); exact rfl) | ((apply d8 (f := 16)); exact rfl; exact rfl; exact sJ_)); exact eV_; exact (fun w hw => hplay w _ hw (by exact aO_)); rintro v N ⟨ar, cr, rds, rfl, ⟨hsh, hrl⟩, oN⟩ <;> (try simp only [List.cons_append, List.nil_append])) | ((first | ((apply t8 (f := 26)); exact rfl) | ((apply t9 (f := 26)); exact rfl; kernel_rfl; exact rfl; exact sJ_)); exact eV_; exact (fun w hw => zs5 hz w (hI.keep hw (by exact aO_)) (hw.at (by exact aT_)))) | ((first | apply w9 | apply y8 | apply x9); exact rfl; exact rfl) | (apply w7; first | refine u9 (h := ?_) | refine y9 (h := ?_) | refine w8 (h := ?_) | refine q7 (h := ?_) | refine q6 (h := ?_)) | ((first | apply p4 | apply n0 | apply l8 | apply p5); exact rfl; exact rfl; exact rfl) | ((first | apply o8 | apply c8); exact rfl; intro _) | (apply zc3; exact rfl; exact rfl; exact rfl; intro _) | (apply q8; first | refine q9 (h := ?_) | refine p3 (h := ?_)) | (apply g7; first | refine a8 (h := ?_)) | (apply zj7; refine zA3 (h := ?_)) | ((first | apply s9 | apply x8 | apply z8 | apply s7 | apply s8 | apply w4 | apply z9 | apply w5)) | ((first | apply w6 | apply z6 | apply z0 | apply p7 | apply y0 | apply z7)))
      (first | (apply zU0; exact aT_; exact uP_; apply zf8 Try.results9; exact rV_; exact rV_; intro w' hw) | (apply zT9; apply zf8 Try.results9; exact rV_; exact rV_; intro w' hw))
      exact ⟨rfl, hw.below (show AO _ by exact aO_)⟩
  rw [if_neg ht1] at he
  refine zx0 Try.func9 rfl Try.ntmps9 rfl (Rep.start w) ?_
  repeat' (first | (apply v9; exact rfl; exact dF_) | ((first | ((apply d7 (f := 16)); exact rfl) | ((apply d8 (f := 16)); exact rfl; exact rfl; exact sJ_)); exact eV_; exact (fun w hw => hplay w _ hw (by exact aO_)); rintro v N ⟨ar, cr, rds, rfl, ⟨hsh, hrl⟩, oN⟩ <;> (try simp only [List.cons_append, List.nil_append])) | ((first | ((apply t8 (f := 26)); exact rfl) | ((apply t9 (f := 26)); exact rfl; kernel_rfl; exact rfl; exact sJ_)); exact eV_; exact (fun w hw => zs5 hz w (hI.keep hw (by exact aO_)) (hw.at (by exact aT_)))) | ((first | apply w9 | apply y8 | apply x9); exact rfl; exact rfl) | (apply w7; first | refine u9 (h := ?_) | refine y9 (h := ?_) | refine w8 (h := ?_) | refine q7 (h := ?_) | refine q6 (h := ?_)) | ((first | apply p4 | apply n0 | apply l8 | apply p5); exact rfl; exact rfl; exact rfl) | ((first | apply o8 | apply c8); exact rfl; intro _) | (apply zc3; exact rfl; exact rfl; exact rfl; intro _) | (apply q8; first | refine q9 (h := ?_) | refine p3 (h := ?_)) | (apply n8; infer_instance; exact rfl; exact rfl) | (apply zj7; refine zA3 (h := ?_)) | (apply zm1; infer_instance; exact rfl; exact rfl; intro _) | ((first | apply s9 | apply x8 | apply z8 | apply s7 | apply s8 | apply w4 | apply z9 | apply w5)) | ((first | apply w6 | apply z6 | apply z0 | apply p7 | apply y0 | apply z7)))
  rename_i b3 b4 b5 b6 b7 bm b11
  apply i9 (σ := Nat) (Fs := fun i => [(48, .int .i64 i), (47, .int .i64 p.ms.length), (46, .slice a1_ p.ms.length c1), (11, ptr b11), (10, .int .i64 k0), (8, .slice ar (Plt.za4 p).length cr), (7, ptr b7), (6, ptr b6), (5, ptr b5), (4, ptr b4), (3, ptr b3)])
    (Ls := fun i => ⟨b11, Ce [.map (some bm)] 112, true⟩ :: ⟨bm, MO (MM kI kI (Plt.zq3 (p.ms.take i))), true⟩ :: (N ++ (⟨b7, Ce [.int .i64 0] 39, true⟩ :: ⟨b6, Ce [.int .u8 0, .int .i64 0, .int .i64 0] 38, true⟩ :: ⟨b5, Ce [.int .i64 t] 3, true⟩ :: ⟨b4, Ce [.int .i64 x] 3, true⟩ :: ⟨b3, Ce [.slice a1_ p.ms.length c1, .slice a2 p.items.length c2, .slice a3 p.passes.length c3] 26, true⟩ :: [])))
    (I := fun i => i ≤ p.ms.length) (μ := fun i => p.ms.length - i) (s0 := 0)
  · exact Nat.zero_le _
  · exact fS_
  · exact hS_
  intro i hi
  have hi : i ≤ p.ms.length := hi
  by_cases hlt : i < p.ms.length
  · obtain ⟨d, hd⟩ : ∃ d, ds[i]? = some d := ⟨_, List.getElem?_eq_getElem (by omega)⟩
    obtain ⟨m, hx⟩ : ∃ m, p.ms[i]? = some m := ⟨_, List.getElem?_eq_getElem hlt⟩
    have hmv := hmach i d m hd hx
    obtain ⟨b, off, cc, e, fz, rfl, hk, hpt⟩ := hop1 (by omega)
    obtain ⟨id, sw, ra, ⟨x1, k1, z1⟩, ⟨x2, k2, z2⟩⟩ := d
    have g1 : ∀ j u, ([.int .i64 id, .int .i64 sw, .int .i64 ra, .slice x1 k1 z1, .slice x2 k2 z2] : List Value)[j]? = some u → cc[off + i * 5 + j]? = some u := hpt.get hd
    obtain ⟨e1, e2⟩ : id = m.id ∧ ra = m.rate := ⟨hmv.id, hmv.rate⟩
    subst e1 e2
    have hnd := List.Sublist.nodup (List.Sublist.map Plt.zb3.id (List.take_sublist i p.ms)) hc.nd
    have hnk : ((Plt.zq3 (p.ms.take i)).map Prod.fst).Nodup := by rw [Plt.zC6]; exact hnd
    have hput : ze5 m.id m.rate (Plt.zq3 (p.ms.take i)) = Plt.zq3 (p.ms.take (i + 1)) := by
      have hn2 := List.Sublist.nodup (List.Sublist.map Plt.zb3.id (List.take_sublist (i + 1) p.ms)) hc.nd
      rw [take_snoc hx, List.map_append, List.nodup_append] at hn2
      have hout : asF m.id (Plt.zq3 (p.ms.take i)) = none := by
        rw [zi7]
        intro z hz e
        obtain ⟨m', hm', rfl⟩ := List.mem_map.1 hz
        exact hn2.2.2 m'.id (List.mem_map.2 ⟨m', hm', rfl⟩) m.id (by simp) e
      rw [zl4 hout, take_snoc hx]; simp [Plt.zq3]
    as_aux_lemma =>
      repeat' (first | (apply v8; exact rfl; exact dT_) | ((apply zm9 (κ := kI) (ν := kI) (k := m.id) (v := m.rate)); infer_instance; infer_instance; exact rfl; exact rfl; exact rfl; exact aT_; assumption; exact uP_) | ((first | apply w9 | apply y8 | apply x9); exact rfl; exact rfl) | (apply w7; first | refine u9 (h := ?_) | refine y9 (h := ?_) | refine w8 (h := ?_) | refine q7 (h := ?_) | refine q6 (h := ?_)) | ((first | apply p4 | apply n0 | apply l8 | apply p5); exact rfl; exact rfl; exact rfl) | (apply j8; exact rfl; exact rfl; exact rfl; (constructor <;> omega)) | ((first | apply o8 | apply c8); exact rfl; intro _) | (apply q8; first | refine q9 (h := ?_) | refine p3 (h := ?_)) | (apply l0; infer_instance; infer_instance; exact rfl; exact rfl; (first | exact rfl | omega); exact rfl; (first | assumption | omega | decide)) | ((first | apply s9 | apply x8 | apply z8 | apply s7 | apply s8 | apply w4 | apply z9 | apply w5)) | ((first | apply w6 | apply z6 | apply z0 | apply p7 | apply y0 | apply z7)))
      refine o9 (i + 1) (by omega) (by omega) ?_ ?_
      · exact fS_
      · (try dsimp only); rw [← hput]; exact hS_
  obtain rfl : i = p.ms.length := by omega
  rw [List.take_length]
  have hrn : ((Plt.zq3 p.ms).map Prod.fst).Nodup := by rw [Plt.zC6]; exact hc.nd
  clear hop1 hmach
  repeat' (first | (apply v9; exact rfl; exact dF_) | ((first | ((apply d7 (f := 28)); exact rfl) | ((apply d8 (f := 28)); exact rfl; exact rfl; exact sJ_)); exact eV_; exact (fun w _ => zP0 _ _ _ w); rintro v NB ⟨bb, rfl, rfl⟩ <;> (try simp only [List.cons_append, List.nil_append])) | ((first | apply w9 | apply y8 | apply x9); exact rfl; exact rfl) | ((first | apply p4 | apply n0 | apply l8 | apply p5); exact rfl; exact rfl; exact rfl) | ((first | apply s9 | apply x8 | apply z8 | apply s7 | apply s8 | apply w4 | apply z9 | apply w5)) | ((first | apply w6 | apply z6 | apply z0 | apply p7 | apply y0 | apply z7)))
  (apply zy8; exact rfl; infer_instance; exact rfl; exact Try.ntmps41; exact rfl; intro lp bd Z a1 ha1 hZ)
  repeat' (first | ((first | apply w9 | apply y8 | apply x9 | apply p6); exact rfl; exact rfl) | (apply w7; first | refine u9 (h := ?_) | refine y9 (h := ?_) | refine w8 (h := ?_) | refine q7 (h := ?_) | refine q6 (h := ?_)) | ((first | apply j8 | apply ze3); exact rfl; exact rfl; exact rfl; (constructor <;> omega)) | (apply n8; infer_instance; exact rfl; exact rfl) | ((first | apply s9 | apply x8 | apply z8 | apply s7 | apply s8 | apply w4 | apply z9 | apply w5)) | ((first | apply w6 | apply z6 | apply z0 | apply p7 | apply y0 | apply z7)))
  apply i9 (σ := Int) (Fs := fun j => [(3, .int .i64 j), (0, .func (.yield lp) #[] #[]), (1, ptr bb)])
    (Ls := fun j => ⟨lp, Z .ready none, true⟩ :: ⟨bd, .deferred (some []), true⟩ :: ⟨bb, Ce [.slice ar (Plt.za4 p).length cr] 61, true⟩ :: ⟨b11, Ce [.map (some bm)] 112, true⟩ :: ⟨bm, MO (MM kI kI (Plt.zq3 p.ms)), true⟩ :: (N ++ (⟨b7, Ce [.int .i64 0] 39, true⟩ :: ⟨b6, Ce [.int .u8 0, .int .i64 0, .int .i64 0] 38, true⟩ :: ⟨b5, Ce [.int .i64 t] 3, true⟩ :: ⟨b4, Ce [.int .i64 x] 3, true⟩ :: ⟨b3, Ce [.slice a1_ p.ms.length c1, .slice a2 p.items.length c2, .slice a3 p.passes.length c3] 26, true⟩ :: [])))
    (I := fun j => (-1 ≤ j ∧ j < p.passes.length) ∧ Plt.zE6 p x t p.passes.length = Plt.zE6 p x t (j + 1).toNat) (μ := fun j => (j + 1).toNat) (s0 := ((Plt.za4 p).length : Int) - 1)
  · refine ⟨by omega, ?_⟩
    congr 1; omega
  · exact fS_
  · exact hS_
  rintro j ⟨hj, hlast⟩
  by_cases hj0 : 0 ≤ j
  · obtain ⟨n, rfl⟩ := Int.eq_ofNat_of_zero_le hj0
    have hnl : n < p.passes.length := by omega
    obtain ⟨y, hy⟩ : ∃ y, p.passes[n]? = some y := ⟨_, List.getElem?_eq_getElem hnl⟩
    obtain ⟨r, hr⟩ : ∃ r, (Plt.za4 p)[n]? = some r := ⟨_, List.getElem?_eq_getElem (by omega)⟩
    obtain ⟨d, hd⟩ : ∃ d, rds[n]? = some d := ⟨_, List.getElem?_eq_getElem (by omega)⟩
    obtain ⟨pd, hpd⟩ : ∃ d, ys[n]? = some d := ⟨_, List.getElem?_eq_getElem (by omega)⟩
    have hpv := hpass n pd y hpd hy
    obtain ⟨pid, pma, pre, ⟨v1, w1, u1⟩, ⟨v2, w2, u2⟩, ⟨v3, w3, u3⟩⟩ := pd
    obtain ⟨b, off, cc, e, fz, rfl, hk, hpt⟩ := hop3 (by omega)
    have g1 : ∀ j u, ([.int .i64 pid, .int .i64 pma, .int .i64 pre, .slice v1 w1 u1, .slice v2 w2 u2, .slice v3 w3 u3] : List Value)[j]? = some u → cc[off + n * 6 + j]? = some u := hpt.get hpd
    obtain rfl : pma = y.mach := hpv.mach
    obtain ⟨mj, m, hmj, hmid, hmf, hmr⟩ := hc.mach n y hy
    have hlk : asF y.mach (Plt.zq3 p.ms) = some m.rate := by rw [← hmid]; exact Plt.yr7 hc.nd hmj
    have hrs := Plt.zN0 (stops := Plt.zc1 p.items) (hc.job n y hy)
    have hget := Plt.zD8 hy
    rw [hr] at hget
    rw [← Option.some.inj hget] at hrs
    obtain ⟨hsn, hsb⟩ := hrs
    have hsn : r.slices.length ≤ 100000 := by omega
    have hat : Plt.zu4 p x t n = Plt.zn4 r x m.rate t := by unfold Plt.zu4; rw [hr, hy]; dsimp only; rw [hmf]
    rw [show ((n : Int) + 1).toNat = n + 1 from by omega, Plt.zE6, hat] at hlast
    obtain ⟨rate, hrate0⟩ : ∃ rate, m.rate = rate := ⟨_, rfl⟩
    rw [hrate0] at hlk hlast hmr
    have hrate : 1 ≤ rate ∧ rate ≤ 1000000 := by omega
    obtain ⟨dp, ds', df, ⟨x1, n1, k1⟩, ⟨x2, n2, k2⟩, ⟨x3, n3, k3⟩, ⟨x4, n4, k4⟩, ⟨x5, n5, k5⟩, ⟨x6, n6, k6⟩, ⟨x7, n7, k7⟩⟩ := d
    refine zE2 (p := ∃ b off, ar = some ⟨b, off, none⟩) (fun w' hw' => ?_) ?_
    · obtain ⟨_, _, e1, _, hop⟩ := (hsh _ _ _ _ (by exact rL_) hw').1.open
      simp only [Value.slice.injEq] at e1
      obtain ⟨b, off, _, _, _, e, _⟩ := hop (by omega)
      exact ⟨b, off, e1.1.trans e⟩
    rintro ⟨br, offr, rfl⟩
    cases hso : Plt.zn4 r x rate t with
    | true =>
      rw [hso, if_pos rfl] at hlast
      rw [hlast] at he
      dsimp only at he
      rw [hr] at he
      dsimp only at he
      obtain ⟨hpl, rfl⟩ : Plt.zq0 r x = (kd, ps, nu) ∧ k = 0 := by simp only [Prod.mk.injEq] at he ⊢; exact ⟨by rw [he.1], he.2.symm⟩
      as_aux_lemma =>
        repeat' (first | (apply v8; exact rfl; exact dT_) | (apply zv5; exact rfl; exact eV_; assumption; assumption; exact aT_; exact rfl; exact rfl; (repeat (first | exact RPar.nil | apply RPar.cons)); intro aI haI) | (apply zu9; assumption; exact aT_; exact uP_) | (first | (apply zv1; assumption; exact rfl; assumption; exact aT_; exact uP_) | (apply zj4; assumption; exact rfl; assumption; exact aT_; exact uP_) | (apply zi0; assumption; exact rfl; assumption; exact aT_; exact uP_)) | (first | apply zC5 Try.results41 | apply zv6 Try.results41) | (first | (apply zv0; assumption; assumption; exact aT_; (intro hst; cases hst); exact uP_) | (apply zq9; assumption; assumption; exact aT_; (intro hst; cases hst); exact uP_)) | ((apply yj7 (l := [.int .i64 dp, .int .i64 ds', .int .i64 df, .slice x1 n1 k1, .slice x2 n2 k2, .slice x3 n3 k3, .slice x4 n4 k4, .slice x5 n5 k5, .slice x6 n6 k6, .slice x7 n7 k7])); infer_instance; infer_instance; exact rfl; (intro w' hw' j' v' hj'; exact SV.cell (hsh _ _ _ _ (by exact rL_) hw').1 hd hj'); exact rfl; exact rfl) | ((apply zq2 (κ := kI) (ν := kI) (k := y.mach) (v := rate)); infer_instance; infer_instance; exact rfl; exact rfl; exact sJ_; exact rfl; exact kN_; assumption; assumption; exact rfl) | ((first | ((apply t8 (f := 29)); exact rfl) | ((apply t9 (f := 29)); exact rfl; kernel_rfl; exact rfl; exact sJ_)); exact eV_; exact (fun w hw => zX3 hso hrate hsb hsn w ((hsh _ _ _ _ (by exact rL_) hw).2.2 n _ _ hd hr))) | ((first | ((apply t8 (f := 30)); exact rfl) | ((apply t9 (f := 30)); exact rfl; kernel_rfl; exact rfl; exact sJ_)); exact eV_; exact (fun w hw => yx9 hpl w ((hsh _ _ _ _ (by exact rL_) hw).2.2 n _ _ hd hr))) | ((first | apply w9 | apply y8 | apply x9 | apply p6); exact rfl; exact rfl) | (apply w7; first | refine u9 (h := ?_) | refine y9 (h := ?_) | refine w8 (h := ?_) | refine q7 (h := ?_) | refine q6 (h := ?_)) | ((first | apply p4 | apply n0 | apply d9 | apply l8 | apply p5); exact rfl; exact rfl; exact rfl) | (apply zd7; exact rfl; exact rfl) | ((first | apply o8 | apply c8); exact rfl; intro _) | (apply q8; first | refine q9 (h := ?_) | refine p3 (h := ?_)) | (apply l0; infer_instance; infer_instance; exact rfl; exact rfl; (first | exact rfl | omega); exact rfl; (first | assumption | omega | decide)) | ((first | apply s9 | apply x8 | apply z8 | apply s7 | apply s8 | apply w4 | apply z9 | apply w5)) | (apply v8; exact rfl; exact tT_) | ((first | apply w6 | apply z6 | apply z0 | apply p7 | apply y0 | apply z7)) | ((apply p8 (id := 20) []); kernel_rfl; kernel_rfl) | (apply za7; try simp only [zb1, List.cons_append, List.nil_append]) | ((first | apply g9 | apply m0 | apply m8); exact rfl; exact rfl) | ((first | apply zb9); exact rfl; exact rfl) | (apply m5; first | refine k9 (h := ?_) | refine o7 (h := ?_) | refine m6 (h := ?_) | refine d6 (h := ?_) | refine f4 (h := ?_)) | (apply zc4; infer_instance; infer_instance; exact rfl; exact rfl; (first | exact rfl | omega); exact rfl; (first | assumption | omega | decide)))
        (first | (apply zU0; exact aT_; exact uP_; apply zf8 Try.results9; exact rV_; exact rV_; intro w' hw) | (apply zT9; apply zf8 Try.results9; exact rV_; exact rV_; intro w' hw))
        exact ⟨rfl, hw.below (show AO _ by exact aO_)⟩
    | false =>
      rw [hso, if_neg (by simp)] at hlast
      as_aux_lemma =>
        repeat' (first | (apply v8; exact rfl; exact dT_) | (apply zv5; exact rfl; exact eV_; assumption; assumption; exact aT_; exact rfl; exact rfl; (repeat (first | exact RPar.nil | apply RPar.cons)); intro aI haI) | (apply zu9; assumption; exact aT_; exact uP_) | (first | (apply zv1; assumption; exact rfl; assumption; exact aT_; exact uP_) | (apply zj4; assumption; exact rfl; assumption; exact aT_; exact uP_) | (apply zi0; assumption; exact rfl; assumption; exact aT_; exact uP_)) | (first | apply zC5 Try.results41 | apply zv6 Try.results41) | (first | (apply zv0; assumption; assumption; exact aT_; (intro hst; cases hst); exact uP_) | (apply zq9; assumption; assumption; exact aT_; (intro hst; cases hst); exact uP_)) | ((apply yj7 (l := [.int .i64 dp, .int .i64 ds', .int .i64 df, .slice x1 n1 k1, .slice x2 n2 k2, .slice x3 n3 k3, .slice x4 n4 k4, .slice x5 n5 k5, .slice x6 n6 k6, .slice x7 n7 k7])); infer_instance; infer_instance; exact rfl; (intro w' hw' j' v' hj'; exact SV.cell (hsh _ _ _ _ (by exact rL_) hw').1 hd hj'); exact rfl; exact rfl) | ((apply zq2 (κ := kI) (ν := kI) (k := y.mach) (v := rate)); infer_instance; infer_instance; exact rfl; exact rfl; exact sJ_; exact rfl; exact kN_; assumption; assumption; exact rfl) | ((first | ((apply t8 (f := 29)); exact rfl) | ((apply t9 (f := 29)); exact rfl; kernel_rfl; exact rfl; exact sJ_)); exact eV_; exact (fun w hw => zX3 hso hrate hsb hsn w ((hsh _ _ _ _ (by exact rL_) hw).2.2 n _ _ hd hr))) | ((first | apply w9 | apply y8 | apply x9 | apply p6); exact rfl; exact rfl) | (apply w7; first | refine u9 (h := ?_) | refine y9 (h := ?_) | refine w8 (h := ?_) | refine q7 (h := ?_) | refine q6 (h := ?_)) | ((first | apply p4 | apply n0 | apply d9 | apply l8 | apply p5); exact rfl; exact rfl; exact rfl) | (apply zd7; exact rfl; exact rfl) | ((first | apply j8 | apply ze3); exact rfl; exact rfl; exact rfl; (constructor <;> omega)) | ((first | apply o8 | apply c8); exact rfl; intro _) | (apply q8; first | refine q9 (h := ?_) | refine p3 (h := ?_)) | (apply l0; infer_instance; infer_instance; exact rfl; exact rfl; (first | exact rfl | omega); exact rfl; (first | assumption | omega | decide)) | ((first | apply s9 | apply x8 | apply z8 | apply s7 | apply s8 | apply w4 | apply z9 | apply w5)) | (apply v9; exact rfl; exact fF_) | ((first | apply w6 | apply z6 | apply z0 | apply p7 | apply y0 | apply z7)) | ((apply p8 (id := 20) []); kernel_rfl; kernel_rfl) | (apply za7; try simp only [zb1, List.cons_append, List.nil_append]) | ((first | apply g9 | apply m0 | apply m8); exact rfl; exact rfl) | ((first | apply zb9); exact rfl; exact rfl) | (apply m5; first | refine k9 (h := ?_) | refine o7 (h := ?_) | refine m6 (h := ?_) | refine d6 (h := ?_) | refine f4 (h := ?_)) | (apply zc4; infer_instance; infer_instance; exact rfl; exact rfl; (first | exact rfl | omega); exact rfl; (first | assumption | omega | decide)))
        refine o9 ((n : Int) - 1) ⟨by omega, by rw [hlast]; congr 1; omega⟩ (by omega) ?_ ?_
        · exact fS_
        · exact hS_
  obtain rfl : j = -1 := by omega
  rw [show ((-1 : Int) + 1).toNat = 0 from rfl, Plt.zE6] at hlast
  rw [hlast] at he
  obtain ⟨⟨yi, ys', yb⟩, hyk⟩ : ∃ y, p.items[k0]? = some y := ⟨_, List.getElem?_eq_getElem hkl⟩
  rw [hyk] at he
  cases he
  obtain ⟨b, off, cc, e, fz, rfl, hk, hpt⟩ := hop2 (by omega)
  have g1 : ∀ j u, ([.int .i64 yi, .int .i64 ys', .int .i64 yb] : List Value)[j]? = some u → cc[off + k0 * 3 + j]? = some u := hpt.get hyk
  as_aux_lemma =>
    repeat' (first | (apply v9; exact rfl; exact dF_) | (apply zv5; exact rfl; exact eV_; assumption; assumption; exact aT_; exact rfl; exact rfl; (repeat (first | exact RPar.nil | apply RPar.cons)); intro aI haI) | (apply zu9; assumption; exact aT_; exact uP_) | (first | (apply zv1; assumption; exact rfl; assumption; exact aT_; exact uP_) | (apply zj4; assumption; exact rfl; assumption; exact aT_; exact uP_) | (apply zi0; assumption; exact rfl; assumption; exact aT_; exact uP_)) | (first | apply zC5 Try.results41 | apply zv6 Try.results41) | (first | (apply zv0; assumption; assumption; exact aT_; (intro hst; cases hst); exact uP_) | (apply zq9; assumption; assumption; exact aT_; (intro hst; cases hst); exact uP_)) | ((first | apply w9 | apply y8 | apply x9 | apply p6); exact rfl; exact rfl) | ((first | apply za9); exact rfl; exact rfl) | (apply w7; first | refine u9 (h := ?_) | refine y9 (h := ?_) | refine w8 (h := ?_) | refine q7 (h := ?_) | refine q6 (h := ?_)) | ((first | apply p4 | apply n0 | apply d9 | apply l8 | apply p5); exact rfl; exact rfl; exact rfl) | (apply q8; first | refine q9 (h := ?_) | refine p3 (h := ?_)) | (apply g7; first | refine a8 (h := ?_)) | (apply l0; infer_instance; infer_instance; exact rfl; exact rfl; (first | exact rfl | omega); exact rfl; (first | assumption | omega | decide)) | ((first | apply s9 | apply x8 | apply z8 | apply s7 | apply s8 | apply w4 | apply z9 | apply w5)) | ((first | apply w6 | apply z6 | apply z0 | apply p7 | apply y0 | apply z7)))
    (first | (apply zU0; exact aT_; exact uP_; apply zf8 Try.results9; exact rV_; exact rV_; intro w' hw) | (apply zT9; apply zf8 Try.results9; exact rV_; exact rV_; intro w' hw))
    exact ⟨rfl, hw.below (show AO _ by exact aO_)⟩
end Go.Proofs.Ytdahckhlfldkkaa
namespace Go.Sx.Plt
def zu6 (t : Int) : i8 := ⟨[⟨1, 0, 2, [5, 5], [⟨0, 1⟩, ⟨10, t⟩]⟩], [⟨1, 7, 1⟩, ⟨2, 6, 1⟩, ⟨3, 5, 1⟩, ⟨4, 7, 1⟩, ⟨5, 6, 1⟩],
  [⟨3, 1, 0, [(0, 1)], [⟨5, 0⟩, ⟨6, 1⟩, ⟨7, 0⟩], []⟩, ⟨4, 1, 0, [(3, 0), (3, 1)], [⟨5, 0⟩, ⟨6, 0⟩, ⟨7, 1⟩], []⟩]⟩
theorem zt3 : zd2 (zu6 20) = (0, 0) := by decide +kernel
theorem zP8 : zd2 (zu6 14) = (0, 0) := by decide +kernel
theorem yB4 : zk6 (zu6 20) 5 11 = ((1, 0, 1), 0) := by decide +kernel
theorem yB5 : zk6 (zu6 20) 5 12 = ((2, 3, 1), 0) := by decide +kernel
theorem yB6 : zk6 (zu6 20) 5 14 = ((2, 3, 1), 0) := by decide +kernel
theorem yB7 : zk6 (zu6 20) 5 15 = ((2, 4, 0), 0) := by decide +kernel
theorem yJ5 : zk6 (zu6 14) 5 99 = ((2, 3, 1), 0) := by decide +kernel
theorem yB2 : ∃ r, (za4 (zu6 20))[0]? = some r ∧ r.start = 0 ∧ r.fin = 12 ∧ r.pass = 3 ∧ r.slices = [(0, 1), (10, 12)] ∧ r.res.stackers = [[1, 3, 4], [2, 5]] := ⟨(za4 (zu6 20)).headD ⟨0, 0, 0, [], [], Srt.M.new 0 0⟩, by kernel_rfl, by kernel_rfl, by kernel_rfl, by kernel_rfl, by kernel_rfl, by kernel_rfl⟩
theorem yB3 : ∃ r, (za4 (zu6 20))[1]? = some r ∧ r.start = 12 ∧ r.fin = 15 ∧ r.items = [1, 3, 4, 2, 5] ∧ r.res.stackers = [[3, 2, 5], [1, 4]] := ⟨(za4 (zu6 20)).tail.headD ⟨0, 0, 0, [], [], Srt.M.new 0 0⟩, by kernel_rfl, by kernel_rfl, by kernel_rfl, by kernel_rfl, by kernel_rfl⟩
theorem yB0 : ∃ r, (za4 (zu6 14))[0]? = some r ∧ r.fin = 12 := ⟨(za4 (zu6 14)).headD ⟨0, 0, 0, [], [], Srt.M.new 0 0⟩, by kernel_rfl, by kernel_rfl⟩
theorem yB1 : ∃ r, (za4 (zu6 14))[1]? = some r ∧ r.start = -1 ∧ r.fin = -1 ∧ r.items = [] := ⟨(za4 (zu6 14)).tail.headD ⟨0, 0, 0, [], [], Srt.M.new 0 0⟩, by kernel_rfl, by kernel_rfl, by kernel_rfl, by kernel_rfl⟩
end Go.Sx.Plt
namespace Go.Proofs.Ytdahckhlfldkkaa
open Go Go.Sx Go.RowKit
attribute [local irreducible] WL WC WQ WR WB WF QB St Exit.then Exit.inBlock Exit.noGoto bodyPost roundPost zc9 YR RG BM Calls B zd4 zf2
def exQ (b1 b2 b3 b4 b5 b6 b7 b8 b9 : Nat) : PlD := ⟨(some ⟨b3, 0, none⟩, 1, 1), (some ⟨b4, 0, none⟩, 5, 5), (some ⟨b9, 0, none⟩, 2, 2),
  [⟨1, 0, 2, (some ⟨b1, 0, none⟩, 2, 2), (some ⟨b2, 0, none⟩, 2, 2)⟩], [⟨3, 1, 0, (some ⟨b5, 0, none⟩, 1, 1), (some ⟨b6, 0, none⟩, 3, 3), nsd⟩, ⟨4, 1, 0, (some ⟨b7, 0, none⟩, 2, 2), (some ⟨b8, 0, none⟩, 3, 3), nsd⟩]⟩
def exN (b1 b2 b3 b4 b5 b6 b7 b8 b9 : Nat) (t : Int) : List Ent := [⟨b9, Ce [.int .i64 3, .int .i64 1, .int .i64 0, slc b5 1, slc b6 3, .slice none 0 0, .int .i64 4, .int .i64 1, .int .i64 0, slc b7 2, slc b8 3, .slice none 0 0] 49, true⟩, ⟨b8, Ce [.int .i64 5, .int .i64 0, .int .i64 6, .int .i64 0, .int .i64 7, .int .i64 1] 98, true⟩, ⟨b7, Ce [.int .i64 3, .int .i64 0, .int .i64 3, .int .i64 1] 95, true⟩, ⟨b6, Ce [.int .i64 5, .int .i64 0, .int .i64 6, .int .i64 1, .int .i64 7, .int .i64 0] 98, true⟩, ⟨b5, Ce [.int .i64 0, .int .i64 1] 95, true⟩, ⟨b4, Ce [.int .i64 1, .int .i64 7, .int .i64 1, .int .i64 2, .int .i64 6, .int .i64 1, .int .i64 3, .int .i64 5, .int .i64 1, .int .i64 4, .int .i64 7, .int .i64 1, .int .i64 5, .int .i64 6, .int .i64 1] 88, true⟩, ⟨b3, Ce [.int .i64 1, .int .i64 0, .int .i64 2, slc b1 2, slc b2 2] 67, true⟩, ⟨b2, Ce [.int .i64 0, .int .i64 1, .int .i64 10, .int .i64 t] 81, true⟩, ⟨b1, Ce [.int .i64 5, .int .i64 5] 3, true⟩]
theorem yB8 {b1 b2 b3 b4 b5 b6 b7 b8 b9 : Nat} {t : Int} : ∀ x ∈ exN b1 b2 b3 b4 b5 b6 b7 b8 b9 t, x.own = true := by simp [exN]
theorem zG1 {b1 b2 b3 b4 b5 b6 b7 b8 b9 : Nat} {t : Int} : Shw (exN b1 b2 b3 b4 b5 b6 b7 b8 b9 t) (fun w => PlV w (exQ b1 b2 b3 b4 b5 b6 b7 b8 b9) (Plt.zu6 t)) := fun w0 w L L0 hr hw => by
  have hw2 : Rep w0 w (exN b1 b2 b3 b4 b5 b6 b7 b8 b9 t ++ L0) := hw.perm hr
  unfold exN at hw2
  simp only [List.cons_append, List.nil_append] at hw2
  refine ⟨SV.lit (n := 1) [(⟨1, 0, 2, (some ⟨b1, 0, none⟩, 2, 2), (some ⟨b2, 0, none⟩, 2, 2)⟩ : MD)] zw6 hw2 (by exact aT_) rfl rfl (by decide), SV.lit (n := 5) (Plt.zu6 t).items zr0 hw2 (by exact aT_) rfl rfl (by decide), SV.lit (n := 2) [(⟨3, 1, 0, (some ⟨b5, 0, none⟩, 1, 1), (some ⟨b6, 0, none⟩, 3, 3), nsd⟩ : PD), ⟨4, 1, 0, (some ⟨b7, 0, none⟩, 2, 2), (some ⟨b8, 0, none⟩, 3, 3), nsd⟩] zw7 hw2 (by exact aT_) rfl rfl (by decide), rfl, rfl, fun i d m hd hm => ?_, fun i d y hd hy => ?_⟩
  · rcases i with _ | i
    · simp [exQ] at hd
      simp [Plt.zu6] at hm
      subst hd hm
      exact ⟨rfl, rfl, rfl, SV.lit (n := 2) [5, 5] i7 hw2 (by exact aT_) rfl rfl (by decide), SV.lit (n := 2) [⟨0, 1⟩, ⟨10, t⟩] zw8 hw2 (by exact aT_) rfl rfl (by decide)⟩
    · simp [exQ] at hd
  · rcases i with _ | _ | i
    · simp [exQ] at hd
      simp [Plt.zu6] at hy
      subst hd hy
      exact ⟨rfl, rfl, rfl, SV.lit (n := 1) [((0 : Int), (1 : Int))] zp7 hw2 (by exact aT_) rfl rfl (by decide), SV.lit (n := 3) [⟨5, 0⟩, ⟨6, 1⟩, ⟨7, 0⟩] zp6 hw2 (by exact aT_) rfl rfl (by decide), SV.nil⟩
    · simp [exQ] at hd
      simp [Plt.zu6] at hy
      subst hd hy
      exact ⟨rfl, rfl, rfl, SV.lit (n := 2) [((3 : Int), (0 : Int)), (3, 1)] zp7 hw2 (by exact aT_) rfl rfl (by decide), SV.lit (n := 3) [⟨5, 0⟩, ⟨6, 0⟩, ⟨7, 1⟩] zp6 hw2 (by exact aT_) rfl rfl (by decide), SV.nil⟩
    · simp [exQ] at hd
theorem zT3 (w : World) : Calls Try.prog 11 #[] w fun e w' => ∃ v N, e = .returned v ∧ (∃ b1 b2 b3 b4 b5 b6 b7 b8 b9, v = plV (exQ b1 b2 b3 b4 b5 b6 b7 b8 b9) ∧ N = exN b1 b2 b3 b4 b5 b6 b7 b8 b9 20) ∧ Rep w w' N ∧ ∀ x ∈ N, x.own = true := by
  refine yc4 Try.func11 rfl Try.ntmps11 rfl (Rep.start w) ?_
  repeat' (first | (apply o8; exact rfl; intro _) | (apply q8; first | refine q9 (h := ?_) | refine p3 (h := ?_)) | (apply g7; first | refine a8 (h := ?_)) | (apply k8; refine i4 (h := fun _ => ?_)) | ((first | apply s9 | apply x8 | apply z8 | apply s7 | apply s8 | apply w4 | apply z9 | apply w5)) | ((first | apply w6 | apply z6 | apply z0 | apply p7 | apply y0 | apply z7)))
  apply o0; apply za8 Try.results11; exact rV_; intro w' hw
  rename_i b0 b1 b2 b3 b4 b5 b6 b7 b8 b9
  exact ⟨_, exN b1 b2 b3 b4 b5 b6 b7 b8 b9 20, rfl, ⟨b1, b2, b3, b4, b5, b6, b7, b8, b9, rfl, rfl⟩, hw.sub (by unfold exN; exact hS_), yB8⟩
theorem zw3 {q : PlD} {p : Plt.i8} {x t kd ps nu : Int} (hc : Plt.zd2 p = (0, 0)) (he : Plt.zk6 p x t = ((kd, ps, nu), 0)) (w : World) (h : PlV w q p) : Calls Try.prog 20 #[plV q, .int .i64 x, .int .i64 t, .agg #[.int .u8 kd, .int .i64 ps, .int .i64 nu]] w fun e w' => e = .returned (.bool true) ∧ Below w.heap.size w w' := by
  obtain ⟨⟨a1, n1, c1⟩, ⟨a2, n2, c2⟩, ⟨a3, n3, c3⟩, ds, ys⟩ := q
  refine yc5 Try.func20 rfl Try.ntmps20 rfl (Rep.start w) ?_
  repeat' (first | ((first | ((apply t8 (f := 9)); exact rfl) | ((apply t9 (f := 9)); exact rfl; kernel_rfl; exact rfl; exact sJ_)); exact eV_; exact (fun w hw => zN4 (Plt.zG9 hc) he w (h.keep hw (by exact aO_)))) | ((first | apply w9 | apply y8); exact rfl; exact rfl) | (apply w7; first | refine u9 (h := ?_) | refine y9 (h := ?_) | refine w8 (h := ?_) | refine q7 (h := ?_) | refine q6 (h := ?_)) | ((first | apply m9 | apply p5); exact rfl; exact rfl; exact rfl) | (apply zT5; refine yz7 (h := ?_)) | (apply n9; exact rfl; exact tT_; exact rfl; exact rfl) | (apply o8; exact rfl; intro _) | (apply zc3; exact rfl; exact rfl; exact rfl; intro _) | (apply q8; first | refine q9 (h := ?_) | refine p3 (h := ?_)) | ((first | apply j0); exact rfl; exact gG_) | ((first | apply s9 | apply x8 | apply z8 | apply s7 | apply s8 | apply w4 | apply z9 | apply w5)) | ((first | apply w6 | apply z6 | apply z0 | apply p7 | apply y0 | apply z7)))
  apply o0; apply za8 Try.results20; exact rV_; intro w' hw
  refine ⟨?_, hw.below (by simp)⟩
  simp
end Go.Proofs.Ytdahckhlfldkkaa
namespace Go.Proofs.Ytdahckhlfldkkaa
open Go Go.Sx Go.RowKit
attribute [local irreducible] WL WC WQ WR WB WF QB St Exit.then Exit.inBlock Exit.noGoto bodyPost roundPost zc9 YR RG BM Calls B zd4 zf2
theorem zJ0 {va vb : Value} {xs ys : List Int} (he : xs = ys) (w : World) (ha : SV w 1 encI va xs) (hb : SV w 1 encI vb ys) : Calls Try.prog 18 #[va, vb] w fun e w' => e = .returned (.bool true) ∧ Below w.heap.size w w' := by
  have := zS4 w ha hb; rwa [zh7 he] at this
theorem LL.two' {α : Type} {E : TypeId} {k : Nat} {enc : α → List Value} {x y : List α} {L : List Ent} {b b' : Nat} {w0 w : World} (henc : ∀ x, (enc x).length = k) (hw : Rep w0 w L) (h1 : At L b (Ce (x.flatMap enc) E)) (h2 : At L b' (Ce (y.flatMap enc) E)) (hx : x.length ≤ 1000000) (hy : y.length ≤ 1000000) : SL w k enc [(some ⟨b, 0, none⟩, x.length, x.length), (some ⟨b', 0, none⟩, y.length, y.length)] [x, y] := by
  refine ⟨rfl, fun i s xs hs hxs => ?_⟩
  match i with
  | 0 =>
    cases hs; cases hxs
    exact SV.lit x henc hw h1 rfl rfl (show x.length ≤ _ from by omega)
  | 1 =>
    cases hs; cases hxs
    exact SV.lit y henc hw h2 rfl rfl (show y.length ≤ _ from by omega)
  | i + 2 => simp at hs
set_option maxHeartbeats 4000000 in
theorem yq4 {va vb : Value} {ss tt : List SD} {xss yss : List (List Int)} (he : xss = yss) (w : World) (ha : SV w 1 encS va ss) (hal : SL w 1 encI ss xss) (hb : SV w 1 encS vb tt) (hbl : SL w 1 encI tt yss) : Calls Try.prog 19 #[va, vb] w fun e w' => e = .returned (.bool true) ∧ Below w.heap.size w w' := by
  subst he
  obtain ⟨a1, c1, rfl, hc1, hop1⟩ := ha.open
  obtain ⟨a2, c2, rfl, hc2, hop2⟩ := hb.open
  have hl1 := hal.1
  have hl2 := hbl.1
  refine za6 Try.func19 rfl Try.ntmps19 rfl (Rep.start w) ?_
  repeat' (first | ((first | apply w9 | apply y8 | apply p6); exact rfl; exact rfl) | ((first | apply p4 | apply l8); exact rfl; exact rfl; exact rfl) | (apply n8; infer_instance; exact rfl; exact rfl) | ((first | apply s9 | apply x8 | apply z8 | apply s7 | apply s8 | apply w4 | apply z9 | apply w5)) | (apply v9; exact rfl; exact fF_) | ((first | apply w6 | apply z6 | apply z0 | apply p7 | apply y0 | apply z7)))
  all_goals try (exfalso; omega)
  apply i9 (σ := Nat) (Fs := fun i => [(5, .int .i64 i), (0, .slice a1 ss.length c1), (1, .slice a2 tt.length c2)])
    (Ls := fun i => []) (I := fun i => i ≤ ss.length) (μ := fun i => ss.length - i) (s0 := 0)
  · exact Nat.zero_le _
  · exact fS_
  · exact hS_
  intro i hi
  have hi : i ≤ ss.length := hi
  by_cases hlt : i < ss.length
  · obtain ⟨⟨sa, sn, sc⟩, hx⟩ : ∃ s, ss[i]? = some s := ⟨_, List.getElem?_eq_getElem hlt⟩
    obtain ⟨⟨ta, tn, tc⟩, hy⟩ : ∃ s, tt[i]? = some s := ⟨_, List.getElem?_eq_getElem (by omega)⟩
    obtain ⟨xs, hz⟩ : ∃ s, xss[i]? = some s := ⟨_, List.getElem?_eq_getElem (by omega)⟩
    obtain ⟨b, off, cc, e, fz, rfl, hk, hp⟩ := hop1 (by omega)
    obtain ⟨b', off', cc', e', fz', rfl, hk', hp'⟩ := hop2 (by omega)
    have q1 := hp.one hx rfl
    have q2 := hp'.one hy rfl
    have v1 := hal.2 i _ _ hx hz
    have v2 := hbl.2 i _ _ hy hz
    repeat' (first | ((first | ((apply t8 (f := 18)); exact rfl) | ((apply t9 (f := 18)); exact rfl; kernel_rfl; exact rfl; exact sJ_)); exact eV_; exact (fun w hw => zJ0 rfl w (v1.keep hw (by exact aO_)) (v2.keep hw (by exact aO_)))) | ((first | apply w9 | apply y8 | apply p6); exact rfl; exact rfl) | ((first | apply p4 | apply l8); exact rfl; exact rfl; exact rfl) | (apply j8; exact rfl; exact rfl; exact rfl; (constructor <;> omega)) | (apply n8; infer_instance; exact rfl; exact rfl) | ((first | apply s9 | apply x8 | apply z8 | apply s7 | apply s8 | apply w4 | apply z9 | apply w5)) | (apply v8; exact rfl; exact tT_) | (apply v9; exact rfl; exact fF_) | ((first | apply w6 | apply z6 | apply z0 | apply p7 | apply y0 | apply z7)) | ((apply p8 (id := 6) []); kernel_rfl; kernel_rfl) | (apply za7; try simp only [zb1, List.cons_append, List.nil_append]) | ((first | apply g9 | apply m0); exact rfl; exact rfl) | (apply m5; first | refine k9 (h := ?_) | refine o7 (h := ?_) | refine m6 (h := ?_) | refine d6 (h := ?_) | refine f4 (h := ?_)) | (apply yo3; exact rfl; exact rfl) | (apply zc4; infer_instance; infer_instance; exact rfl; exact rfl; (first | exact rfl | omega); exact rfl; (first | assumption | omega | decide)))
    refine o9 (i + 1) (show i + 1 ≤ ss.length by omega) (show ss.length - (i + 1) < ss.length - i by omega) ?_ ?_
    · exact fS_
    · exact hS_
  repeat' (first | ((first | apply w9 | apply y8 | apply p6); exact rfl; exact rfl) | ((first | apply p4 | apply l8); exact rfl; exact rfl; exact rfl) | (apply n8; infer_instance; exact rfl; exact rfl) | ((first | apply s9 | apply x8 | apply z8 | apply s7 | apply s8 | apply w4 | apply z9 | apply w5)) | (apply v9; exact rfl; exact fF_) | ((first | apply w6 | apply z6 | apply z0 | apply p7 | apply y0 | apply z7)))
  all_goals try (exfalso; omega)
  apply o0; apply za8 Try.results19; exact rV_; intro w' hw
  exact ⟨rfl, hw.below (by simp)⟩
end Go.Proofs.Ytdahckhlfldkkaa
namespace Go.Sx
end Go.Sx
namespace Go.Proofs.Ytdahckhlfldkkaa
open Go Go.Sx Go.RowKit
theorem RunsV.at {w : World} {a : Option Addr} {n c : Nat} {ds : List RD} {runs : List Plt.Run} {i : Nat} {r : Plt.Run} (h : RunsV w (.slice a n c) ds runs) (hr : runs[i]? = some r) : ∃ b off x1 k1 x2 k2 x3 n3 k3 x4 n4 k4 x5 k5 x6 k6 x7 n7 k7, a = some ⟨b, off, none⟩ ∧
    ds[i]? = some ⟨r.pass, r.start, r.fin, (x1, r.items.length, k1), (x2, r.slices.length, k2), (x3, n3, k3), (x4, n4, k4), (x5, r.res.over.length, k5), (x6, r.res.rej.length, k6), (x7, n7, k7)⟩ ∧ n3 = r.res.stackers.length ∧
    ∀ (j : Nat) (u : Value), ([.int .i64 r.pass, .int .i64 r.start, .int .i64 r.fin, .slice x1 r.items.length k1, .slice x2 r.slices.length k2, .slice x3 n3 k3, .slice x4 n4 k4, .slice x5 r.res.over.length k5, .slice x6 r.res.rej.length k6, .slice x7 n7 k7] : List Value)[j]? = some u →
      (zH2 ⟨r.pass, r.start, r.fin, (x1, r.items.length, k1), (x2, r.slices.length, k2), (x3, n3, k3), (x4, n4, k4), (x5, r.res.over.length, k5), (x6, r.res.rej.length, k6), (x7, n7, k7)⟩)[j]? = some u := by
  obtain ⟨hs, hl, hh⟩ := h
  obtain ⟨d, hd⟩ : ∃ d, ds[i]? = some d := ⟨_, List.getElem?_eq_getElem (by have := (List.getElem?_eq_some_iff.1 hr).1; omega)⟩
  obtain ⟨b, off, rfl⟩ := hs.ptr hd
  have hv := hh i d r hd hr
  obtain ⟨x1, k1, e1⟩ := hv.items.sd
  obtain ⟨x2, k2, e2⟩ := hv.slices.sd
  rw [Plt.zl7] at e2
  obtain ⟨ss, h3, h4⟩ := hv.stk
  obtain ⟨x3, k3, e3⟩ := h3.sd
  rw [h4.1] at e3
  obtain ⟨x5, k5, e5⟩ := hv.ov.sd
  obtain ⟨x6, k6, e6⟩ := hv.rj.sd
  obtain ⟨p, s, f, i1, i2, i3, ⟨x4, n4, k4⟩, i5, i6, ⟨x7, n7, k7⟩⟩ := d
  refine ⟨b, off, x1, k1, x2, k2, x3, _, k3, x4, n4, k4, x5, k5, x6, k6, x7, n7, k7, rfl, ?_, rfl, fun _ _ h => h⟩
  rw [hd]
  obtain rfl : p = r.pass := hv.pass
  obtain rfl : s = r.start := hv.start
  obtain rfl : f = r.fin := hv.fin
  dsimp only at e1 e2 e3 e5 e6
  rw [e1, e2, e3, e5, e6]
theorem RunV.stk' {w : World} {r : Plt.Run} {d : RD} {x3 : Option Addr} {n3 k3 : Nat} (h : RunV w d r) (hd : d.stk = (x3, n3, k3)) : ∃ ss, SV w 1 encS (.slice x3 n3 k3) ss ∧ SL w 1 encI ss r.res.stackers := by
  obtain ⟨ss, h1, h2⟩ := h.stk
  rw [hd] at h1
  exact ⟨ss, h1, h2⟩
theorem yd2 {va vb : Value} {tt : List SD} {xss yss : List (List Int)} (he : xss = yss) (w : World) (ha : ∃ ss, SV w 1 encS va ss ∧ SL w 1 encI ss xss) (hb : SV w 1 encS vb tt) (hbl : SL w 1 encI tt yss) : Calls Try.prog 19 #[va, vb] w fun e w' => e = .returned (.bool true) ∧ Below w.heap.size w w' := by
  obtain ⟨ss, h1, h2⟩ := ha
  exact yq4 he w h1 h2 hb hbl
end Go.Proofs.Ytdahckhlfldkkaa
