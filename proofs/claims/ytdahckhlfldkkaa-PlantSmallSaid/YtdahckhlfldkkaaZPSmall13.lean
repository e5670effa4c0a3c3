/- A part of the proofs of this seat: a small logic of walks, plain laws, and what some of the program's functions compute, shown by walks through their code. Conditions: the hypotheses that each theorem names. -/
import Derived.Test.YtdahckhlfldkkaaZPSmall3
import Derived.Test.YtdahckhlfldkkaaZPSmall12
import Derived.Test.YtdahckhlfldkkaaZPSmall10
import Derived.Test.YtdahckhlfldkkaaZPSmall9
set_option linter.unusedSimpArgs false
set_option linter.unusedVariables false
set_option linter.unusedSectionVars false
namespace Go.Proofs.Ytdahckhlfldkkaa
open Go Go.Sx Go.RowKit
attribute [local irreducible] WL WC WQ WR WB WF QB St Exit.then Exit.inBlock Exit.noGoto bodyPost roundPost zc1 YR RG BM Calls B zc7 ze3
theorem zO3 {cv fv : Value} {caps : List Int} {s : Int} {l : List Srt.Fd} {m : Srt.M} {k : Int} (he : Srt.zd0 caps s l = (m, k)) (w : World) (h : SV w 1 encI cv caps) (hl : SV w 2 zo0 fv l) :
    Calls Try.prog 31 #[cv, .int .i64 s, fv] w fun e w' => ∃ v N, e = .returned v ∧ (∃ a1 n1 c1 a2 n2 c2 a3 n3 c3 a4 n4 c4 a5 n5 c5, v = .tuple #[.agg #[.slice a1 n1 c1, .slice a2 n2 c2, .slice a3 n3 c3, .slice a4 n4 c4, .slice a5 n5 c5], .int .i64 k] ∧ passX m (.agg #[.slice a1 n1 c1, .slice a2 n2 c2, .slice a3 n3 c3, .slice a4 n4 c4, .slice a5 n5 c5]) N ∧ ∀ x ∈ N, x.own = true) ∧ Rep w w' N ∧ ∀ x ∈ N, x.own = true :=
  (ym4 w h hl).mono fun e w' ⟨v, N, h1, h2, h3, h4⟩ => by
    rw [he] at h2
    obtain ⟨a1, n1, c1, a2, n2, c2, a3, n3, c3, a4, n4, c4, a5, n5, c5, rfl, hX⟩ := h2
    exact ⟨_, N, h1, ⟨a1, n1, c1, a2, n2, c2, a3, n3, c3, a4, n4, c4, a5, n5, c5, rfl, hX, h4⟩, h3, h4⟩
theorem zL9 {v : Value} {l : List Plt.Sh} {a : Nat} {k : Int} (hf : Plt.zb7 [] l = (a, k)) (w : World) (h : SV w 2 zs8 v l) : Calls Try.prog 32 #[.slice none 0 0, v] w fun e w' => e = .returned (.tuple #[.int .i64 a, .int .i64 k]) ∧ Below w.heap.size w w' := by
  have := yc4 w h; rw [hf] at this; exact this
theorem yn7 {q : PlD} {p : Plt.g8} {i : Nat} {y : Plt.za3} {b : Bool} (hy : p.passes[i]? = some y) (hpre : ∀ (j : Nat) (z : Plt.za3), j < i → p.passes[j]? = some z → 0 ≤ Plt.zj4 z.mach (p.ms.map Plt.zb6.id)) (hsz : p.ms.length ≤ 20 ∧ p.passes.length ≤ 60)
    (hb : B (Plt.zh1 (Plt.zf5 p.ms) (psF (Plt.zf5 p.ms) (p.passes.take i)) (tkF (p.passes.take i)) y) = b) (w : World) (h : PlV w q p) : Calls Try.prog 34 #[plV q, .int .i64 i] w fun e w' => e = .returned (.bool b) ∧ Below w.heap.size w w' := by
  subst hb; exact yj4 hy hpre w h hsz
set_option maxHeartbeats 32000000 in
set_option maxRecDepth 100000 in
theorem ya8 {q : PlD} {p : Plt.g8} (w : World) (h : PlV w q p) : Calls Try.prog 13 #[plV q] w fun e w' => e = .returned (.tuple #[.int .i64 (Plt.zc6 p).1, .int .i64 (Plt.zc6 p).2]) ∧ Below w.heap.size w w' := by
  have hV := h
  obtain ⟨⟨a1, n1, c1⟩, ⟨a2, n2, c2⟩, ⟨a3, n3, c3⟩, ds, ys⟩ := q
  obtain ⟨hM, hI, hP, lm, lp, hmach, hpass⟩ := h
  dsimp only [sdV, plV] at hM hI hP lm lp hmach hpass ⊢
  obtain ⟨_, _, e1, hc1, hop1⟩ := hM.open
  cases e1
  obtain ⟨_, _, e2, hc2, hop2⟩ := hI.open
  cases e2
  obtain ⟨_, _, e3, hc3, hop3⟩ := hP.open
  cases e3
  rw [lm] at hc1 hop1 hM hV ⊢
  rw [lp] at hc3 hop3 hP hV ⊢
  by_cases hsz : 20 < p.ms.length ∨ 2000 < p.items.length ∨ 60 < p.passes.length
  · rw [show Plt.zc6 p = (0, 5) by unfold Plt.zc6; rw [if_pos hsz]]
    refine zd2 Try.func13 rfl Try.ntmps13 rfl (Rep.start w) ?_
    repeat' (first | (apply v8; exact rfl; exact dT_) | (apply n8; exact rfl; exact dT_; exact rfl; exact rfl) | (apply p9; exact rfl; exact dF_; exact rfl; exact rfl) | (apply k9; exact rfl; exact dF_) | (apply za5; exact rfl; exact dT_; exact rfl) | ((first | apply w9 | apply y8 | apply x8 | apply p4); exact rfl; exact rfl) | (apply w7; first | refine u9 (h := ?_) | refine y9 (h := ?_) | refine w8 (h := ?_) | refine q6 (h := ?_) | refine q0 (h := ?_)) | ((first | apply p3 | apply o8 | apply l8 | apply p0); exact rfl; exact rfl; exact rfl) | (apply n8; exact rfl; exact tT_; exact rfl; exact rfl) | (apply zc5; exact rfl; exact rfl; exact rfl; intro _) | (apply o9; infer_instance; exact rfl; exact rfl) | (apply za5; exact rfl; exact gG_; exact rfl) | ((first | apply s9 | apply x9 | apply z8 | apply s7 | apply s8 | apply w4 | apply z9 | apply w5)) | (apply v8; exact rfl; exact tT_) | ((first | apply w6 | apply z6 | apply z0 | apply p5 | apply y0 | apply z7)) | (apply zd3; exact rfl; intro hcond; rotate_left; intro hcond; rotate_left))
    all_goals first
      | (exfalso; omega)
      | (apply p8; apply zf9 Try.results13; exact rV_; exact rV_; intro w' hw; exact ⟨rfl, hw.below (by simp)⟩)
  have e0 : Plt.zc6 p = (match Plt.zf8 [] 0 p.ms with
    | some i => (i, 310)
    | none => match Plt.zg5 [] 0 p.items with
      | some i => (i, 311)
      | none => match Plt.zf7 (Plt.zf5 p.ms) [] [] 0 p.passes with
        | some i => (i, 312)
        | none => (0, 0)) := by unfold Plt.zc6; rw [if_neg hsz]; rfl
  rw [e0]
  refine zd2 Try.func13 rfl Try.ntmps13 rfl (Rep.start w) ?_
  repeat' (first | (apply v9; exact rfl; exact dF_) | (apply p9; exact rfl; exact dF_; exact rfl; exact rfl) | (apply k9; exact rfl; exact dF_) | ((first | apply w9 | apply y8 | apply x8 | apply p4); exact rfl; exact rfl) | (apply w7; first | refine u9 (h := ?_) | refine y9 (h := ?_) | refine w8 (h := ?_) | refine q6 (h := ?_) | refine q0 (h := ?_)) | ((first | apply p3 | apply o8 | apply l8 | apply p0); exact rfl; exact rfl; exact rfl) | (apply zc5; exact rfl; exact rfl; exact rfl; intro _) | (apply o9; infer_instance; exact rfl; exact rfl) | ((first | apply s9 | apply x9 | apply z8 | apply s7 | apply s8 | apply w4 | apply z9 | apply w5)) | ((first | apply w6 | apply z6 | apply z0 | apply p5 | apply y0 | apply z7)))
  rename_i b1
  apply j9 (σ := Nat) (Fs := fun i => [(4, .int .i64 i), (1, ptr b1)]) (Ls := fun _ => ⟨b1, Ce [.slice a1 p.ms.length c1, .slice a2 p.items.length c2, .slice a3 p.passes.length c3] 33, true⟩ :: []) (I := fun i => i ≤ p.ms.length ∧ Plt.zf8 [] 0 p.ms = Plt.zf8 ((p.ms.take i).map Plt.zb6.id) i (p.ms.drop i)) (μ := fun i => p.ms.length - i) (s0 := 0)
  · exact ⟨Nat.zero_le _, by simp⟩
  · exact fS_
  · exact hS_
  rintro i ⟨hi, hbad⟩
  by_cases hlt : i < p.ms.length
  · obtain ⟨m, hx⟩ : ∃ m, p.ms[i]? = some m := ⟨_, List.getElem?_eq_getElem hlt⟩
    obtain ⟨d, hd⟩ : ∃ d, ds[i]? = some d := ⟨_, List.getElem?_eq_getElem (by omega)⟩
    have hmV := hmach i d m hd hx
    obtain ⟨z1, l1, z2, l2, rfl⟩ := hmV.eqs
    obtain ⟨-, -, -, hcaps, hshs⟩ := hmV
    dsimp only [sdV] at hcaps hshs
    obtain ⟨b, off, cc, e, fz, rfl, hk, hp⟩ := hop1 (by omega)
    have g1 : ∀ j u, ([.int .i64 m.id, .int .i64 m.sweeps, .int .i64 m.rate, .slice z1 m.caps.length l1, .slice z2 m.shifts.length l2] : List Value)[j]? = some u → cc[off + i * 5 + j]? = some u := hp.get hd
    have hmi : (p.ms.map Plt.zb6.id)[i]? = some m.id := by rw [List.getElem?_map, hx]; rfl
    have hidx := Plt.zB6 hmi
    rw [← List.map_take] at hidx
    obtain ⟨zp, hzp⟩ : ∃ z, Plt.zj4 m.id (p.ms.map Plt.zb6.id) = z := ⟨_, rfl⟩
    rw [hzp] at hidx
    obtain ⟨⟨rm, re⟩, he⟩ : ∃ r, Srt.zd0 m.caps m.sweeps [] = r := ⟨_, rfl⟩
    obtain ⟨⟨fa, fe⟩, hf⟩ : ∃ r, Plt.zb7 [] m.shifts = r := ⟨_, rfl⟩
    rw [Go.Proofs.Ytdahckhlfldkkaa.drop_at hx, Plt.zf8] at hbad
    have hr : Plt.zi1 m ↔ (1 ≤ m.id ∧ m.id ≤ 999999) ∧ (1 ≤ m.rate ∧ m.rate ≤ 1000) ∧ re = 0 ∧ fe = 0 := by unfold Plt.zi1 Plt.zB5; rw [he, hf]
    by_cases hid : 1 ≤ m.id ∧ m.id ≤ 999999
    case neg =>
      rw [if_neg (fun g => hid (hr.1 g.2).1)] at hbad
      rw [hbad]
      as_aux_lemma =>
        repeat' (first | (apply v8; exact rfl; exact dT_) | ((first | ((apply f5 (f := 31)); exact rfl) | ((apply d6 (f := 31)); exact rfl; exact rfl; exact sJ_)); exact eV_; exact (fun w hw => zO3 he w (hcaps.keep hw (by exact aO_)) SV.nil); rintro v N ⟨r1, r2, r3, r4, r5, r6, r7, r8, r9, r10, r11, r12, r13, r14, r15, rfl, hX, oX⟩ <;> (try simp only [List.cons_append, List.nil_append, List.append_assoc])) | ((first | ((apply t8 (f := 32)); exact rfl) | ((apply t9 (f := 32)); exact rfl; kernel_rfl; exact rfl; exact sJ_)); exact eV_; exact (fun w hw => zL9 hf w (hshs.keep hw (by exact aO_)))) | ((first | ((apply t8 (f := 33)); exact rfl) | ((apply t9 (f := 33)); exact rfl; kernel_rfl; exact rfl; exact sJ_)); exact eV_; exact (fun w _ => zo7 (decide_eq_false hid) w)) | ((first | apply w9 | apply y8 | apply x8 | apply p4); exact rfl; exact rfl) | (apply w7; first | refine u9 (h := ?_) | refine y9 (h := ?_) | refine w8 (h := ?_) | refine q6 (h := ?_) | refine q0 (h := ?_)) | ((first | apply p3 | apply o8 | apply l8 | apply p0); exact rfl; exact rfl; exact rfl) | (apply zd5; exact rfl; exact rfl) | (apply n8; exact rfl; exact tT_; exact rfl; exact rfl) | (apply o7; exact rfl; intro _) | (apply q7; first | refine q8 (h := ?_) | refine q9 (h := ?_)) | (apply o9; infer_instance; exact rfl; exact rfl) | (apply m8; infer_instance; infer_instance; exact rfl; exact rfl; (first | exact rfl | omega); exact rfl; (first | assumption | omega | decide)) | (apply za5; exact rfl; exact gG_; exact rfl) | ((first | apply s9 | apply x9 | apply z8 | apply s7 | apply s8 | apply w4 | apply z9 | apply w5)) | (apply v8; exact rfl; exact tT_) | ((first | apply w6 | apply z6 | apply z0 | apply p5 | apply y0 | apply z7)))
        apply p8; apply zf9 Try.results13; exact rV_; exact rV_; intro w' hw
        exact ⟨rfl, hw.below (show AO _ from by exact aO_)⟩
    by_cases hok : zp = (i : Int) ∧ (1 ≤ m.rate ∧ m.rate ≤ 1000) ∧ re = 0 ∧ fe = 0
    case neg =>
      rw [if_neg (fun g => hok ⟨hidx.2 g.1, (hr.1 g.2).2⟩)] at hbad
      rw [hbad]
      as_aux_lemma =>
        repeat' (first | (apply v8; exact rfl; exact dT_) | (apply n8; exact rfl; exact dT_; exact rfl; exact rfl) | (apply p9; exact rfl; exact dF_; exact rfl; exact rfl) | (apply k9; exact rfl; exact dF_) | (apply za5; exact rfl; exact dT_; exact rfl) | ((first | ((apply f5 (f := 31)); exact rfl) | ((apply d6 (f := 31)); exact rfl; exact rfl; exact sJ_)); exact eV_; exact (fun w hw => zO3 he w (hcaps.keep hw (by exact aO_)) SV.nil); rintro v N ⟨r1, r2, r3, r4, r5, r6, r7, r8, r9, r10, r11, r12, r13, r14, r15, rfl, hX, oX⟩ <;> (try simp only [List.cons_append, List.nil_append, List.append_assoc])) | ((first | ((apply t8 (f := 32)); exact rfl) | ((apply t9 (f := 32)); exact rfl; kernel_rfl; exact rfl; exact sJ_)); exact eV_; exact (fun w hw => zL9 hf w (hshs.keep hw (by exact aO_)))) | ((first | ((apply t8 (f := 24)); exact rfl) | ((apply t9 (f := 24)); exact rfl; kernel_rfl; exact rfl; exact sJ_)); exact eV_; exact (fun w hw => ze7 hzp w (hV.keep hw (by exact aO_)))) | ((first | ((apply t8 (f := 33)); exact rfl) | ((apply t9 (f := 33)); exact rfl; kernel_rfl; exact rfl; exact sJ_)); exact eV_; exact (fun w _ => zo7 (decide_eq_true hid) w)) | ((first | apply w9 | apply y8 | apply x8 | apply p4); exact rfl; exact rfl) | (apply w7; first | refine u9 (h := ?_) | refine y9 (h := ?_) | refine w8 (h := ?_) | refine q6 (h := ?_) | refine q0 (h := ?_)) | ((first | apply p3 | apply o8 | apply l8 | apply p0); exact rfl; exact rfl; exact rfl) | (apply zd5; exact rfl; exact rfl) | (apply n8; exact rfl; exact tT_; exact rfl; exact rfl) | (apply p9; exact rfl; exact fF_; exact rfl; exact rfl) | (apply o7; exact rfl; intro _) | (apply q7; first | refine q8 (h := ?_) | refine q9 (h := ?_)) | (apply o9; infer_instance; exact rfl; exact rfl) | (apply m8; infer_instance; infer_instance; exact rfl; exact rfl; (first | exact rfl | omega); exact rfl; (first | assumption | omega | decide)) | ((first | apply k9); exact rfl; exact gG_) | (apply za5; exact rfl; exact gG_; exact rfl) | ((first | apply s9 | apply x9 | apply z8 | apply s7 | apply s8 | apply w4 | apply z9 | apply w5)) | (apply v8; exact rfl; exact tT_) | ((first | apply w6 | apply z6 | apply z0 | apply p5 | apply y0 | apply z7)) | (apply zd3; exact rfl; intro hcond; rotate_left; intro hcond; rotate_left))
        all_goals first
          | (exfalso; omega)
          | (apply p8; apply zf9 Try.results13; exact rV_; exact rV_; intro w' hw; exact ⟨rfl, hw.below (show AO _ from by exact aO_)⟩)
    rw [if_pos ⟨hidx.1 hok.1, hr.2 ⟨hid, hok.2⟩⟩] at hbad
    as_aux_lemma =>
      repeat' (first | (apply v8; exact rfl; exact dT_) | (apply v9; exact rfl; exact dF_) | (apply p9; exact rfl; exact dF_; exact rfl; exact rfl) | (apply k9; exact rfl; exact dF_) | ((first | ((apply f5 (f := 31)); exact rfl) | ((apply d6 (f := 31)); exact rfl; exact rfl; exact sJ_)); exact eV_; exact (fun w hw => zO3 he w (hcaps.keep hw (by exact aO_)) SV.nil); rintro v N ⟨r1, r2, r3, r4, r5, r6, r7, r8, r9, r10, r11, r12, r13, r14, r15, rfl, hX, oX⟩ <;> (try simp only [List.cons_append, List.nil_append, List.append_assoc])) | ((first | ((apply t8 (f := 32)); exact rfl) | ((apply t9 (f := 32)); exact rfl; kernel_rfl; exact rfl; exact sJ_)); exact eV_; exact (fun w hw => zL9 hf w (hshs.keep hw (by exact aO_)))) | ((first | ((apply t8 (f := 24)); exact rfl) | ((apply t9 (f := 24)); exact rfl; kernel_rfl; exact rfl; exact sJ_)); exact eV_; exact (fun w hw => ze7 hzp w (hV.keep hw (by exact aO_)))) | ((first | ((apply t8 (f := 33)); exact rfl) | ((apply t9 (f := 33)); exact rfl; kernel_rfl; exact rfl; exact sJ_)); exact eV_; exact (fun w _ => zo7 (decide_eq_true hid) w)) | ((first | apply w9 | apply y8 | apply x8 | apply p4); exact rfl; exact rfl) | (apply w7; first | refine u9 (h := ?_) | refine y9 (h := ?_) | refine w8 (h := ?_) | refine q6 (h := ?_) | refine q0 (h := ?_)) | ((first | apply p3 | apply o8 | apply l8 | apply p0); exact rfl; exact rfl; exact rfl) | (apply zd5; exact rfl; exact rfl) | (apply j0; exact rfl; exact rfl; exact rfl; (constructor <;> omega)) | (apply p9; exact rfl; exact fF_; exact rfl; exact rfl) | (apply o7; exact rfl; intro _) | (apply q7; first | refine q8 (h := ?_) | refine q9 (h := ?_)) | (apply o9; infer_instance; exact rfl; exact rfl) | (apply m8; infer_instance; infer_instance; exact rfl; exact rfl; (first | exact rfl | omega); exact rfl; (first | assumption | omega | decide)) | ((first | apply k9); exact rfl; exact gG_) | ((first | apply s9 | apply x9 | apply z8 | apply s7 | apply s8 | apply w4 | apply z9 | apply w5)) | ((first | apply w6 | apply z6 | apply z0 | apply p5 | apply y0 | apply z7)))
      refine o0 (i + 1) ⟨by omega, by rw [take_snoc hx, List.map_append]; exact hbad⟩ (by omega) ?_ ?_
      · exact fS_
      · exact hS_
  obtain rfl : i = p.ms.length := by omega
  rw [List.drop_length, Plt.zf8] at hbad
  rw [hbad]
  dsimp only
  clear hlt hi
  repeat' (first | (apply v9; exact rfl; exact dF_) | ((first | apply w9 | apply y8 | apply x8 | apply p4); exact rfl; exact rfl) | (apply w7; first | refine u9 (h := ?_) | refine y9 (h := ?_) | refine w8 (h := ?_) | refine q6 (h := ?_) | refine q0 (h := ?_)) | ((first | apply p3 | apply o8 | apply l8 | apply p0); exact rfl; exact rfl; exact rfl) | (apply o9; infer_instance; exact rfl; exact rfl) | ((first | apply s9 | apply x9 | apply z8 | apply s7 | apply s8 | apply w4 | apply z9 | apply w5)) | ((first | apply w6 | apply z6 | apply z0 | apply p5 | apply y0 | apply z7)))
  apply j9 (σ := Nat) (Fs := fun i => [(10, .int .i64 i), (1, ptr b1)]) (Ls := fun _ => ⟨b1, Ce [.slice a1 p.ms.length c1, .slice a2 p.items.length c2, .slice a3 p.passes.length c3] 33, true⟩ :: []) (I := fun i => i ≤ p.items.length ∧ Plt.zg5 [] 0 p.items = Plt.zg5 ((p.items.take i).map Plt.Item.id) i (p.items.drop i)) (μ := fun i => p.items.length - i) (s0 := 0)
  · exact ⟨Nat.zero_le _, by simp⟩
  · exact fS_
  · exact hS_
  rintro i ⟨hi, hbi⟩
  by_cases hlt : i < p.items.length
  · obtain ⟨⟨ti, ts, tb⟩, hx⟩ : ∃ m, p.items[i]? = some m := ⟨_, List.getElem?_eq_getElem hlt⟩
    obtain ⟨b, off, cc, e, fz, rfl, hk, hp⟩ := hop2 (by omega)
    have g1 : ∀ j u, ([.int .i64 ti, .int .i64 ts, .int .i64 tb] : List Value)[j]? = some u → cc[off + i * 3 + j]? = some u := hp.get hx
    have hmi : (p.items.map Plt.Item.id)[i]? = some ti := by rw [List.getElem?_map, hx]; rfl
    have hidx := Plt.zB6 hmi
    rw [← List.map_take] at hidx
    obtain ⟨zp, hzp⟩ : ∃ z, Plt.zj4 ti (p.items.map Plt.Item.id) = z := ⟨_, rfl⟩
    rw [hzp] at hidx
    rw [Go.Proofs.Ytdahckhlfldkkaa.drop_at hx, Plt.zg5] at hbi
    have hr : Plt.Item.ok ⟨ti, ts, tb⟩ ↔ (1 ≤ ti ∧ ti ≤ 999999) ∧ 1 ≤ tb ∧ tb ≤ 100 := by unfold Plt.Item.ok Plt.zB5; exact Iff.rfl
    by_cases hid : 1 ≤ ti ∧ ti ≤ 999999
    case neg =>
      rw [if_neg (fun g => hid (hr.1 g.1).1)] at hbi
      rw [hbi]
      as_aux_lemma =>
        repeat' (first | (apply v8; exact rfl; exact dT_) | ((first | ((apply t8 (f := 33)); exact rfl) | ((apply t9 (f := 33)); exact rfl; kernel_rfl; exact rfl; exact sJ_)); exact eV_; exact (fun w _ => zo7 (decide_eq_false hid) w)) | ((first | apply w9 | apply y8 | apply x8 | apply p4); exact rfl; exact rfl) | (apply w7; first | refine u9 (h := ?_) | refine y9 (h := ?_) | refine w8 (h := ?_) | refine q6 (h := ?_) | refine q0 (h := ?_)) | ((first | apply p3 | apply o8 | apply l8 | apply p0); exact rfl; exact rfl; exact rfl) | (apply zd5; exact rfl; exact rfl) | (apply n8; exact rfl; exact tT_; exact rfl; exact rfl) | (apply o7; exact rfl; intro _) | (apply q7; first | refine q8 (h := ?_) | refine q9 (h := ?_)) | (apply o9; infer_instance; exact rfl; exact rfl) | (apply m8; infer_instance; infer_instance; exact rfl; exact rfl; (first | exact rfl | omega); exact rfl; (first | assumption | omega | decide)) | (apply za5; exact rfl; exact gG_; exact rfl) | ((first | apply s9 | apply x9 | apply z8 | apply s7 | apply s8 | apply w4 | apply z9 | apply w5)) | (apply v8; exact rfl; exact tT_) | ((first | apply w6 | apply z6 | apply z0 | apply p5 | apply y0 | apply z7)))
        apply p8; apply zf9 Try.results13; exact rV_; exact rV_; intro w' hw
        exact ⟨rfl, hw.below (show AO _ from by exact aO_)⟩
    by_cases hok : zp = (i : Int) ∧ 1 ≤ tb ∧ tb ≤ 100
    case neg =>
      rw [if_neg (fun g => hok ⟨hidx.2 g.2, (hr.1 g.1).2⟩)] at hbi
      rw [hbi]
      as_aux_lemma =>
        repeat' (first | (apply v8; exact rfl; exact dT_) | (apply n8; exact rfl; exact dT_; exact rfl; exact rfl) | (apply p9; exact rfl; exact dF_; exact rfl; exact rfl) | (apply k9; exact rfl; exact dF_) | (apply za5; exact rfl; exact dT_; exact rfl) | ((first | ((apply t8 (f := 22)); exact rfl) | ((apply t9 (f := 22)); exact rfl; kernel_rfl; exact rfl; exact sJ_)); exact eV_; exact (fun w hw => zr2 hzp w (hV.keep hw (by exact aO_)))) | ((first | ((apply t8 (f := 33)); exact rfl) | ((apply t9 (f := 33)); exact rfl; kernel_rfl; exact rfl; exact sJ_)); exact eV_; exact (fun w _ => zo7 (decide_eq_true hid) w)) | ((first | apply w9 | apply y8 | apply x8 | apply p4); exact rfl; exact rfl) | (apply w7; first | refine u9 (h := ?_) | refine y9 (h := ?_) | refine w8 (h := ?_) | refine q6 (h := ?_) | refine q0 (h := ?_)) | ((first | apply p3 | apply o8 | apply l8 | apply p0); exact rfl; exact rfl; exact rfl) | (apply zd5; exact rfl; exact rfl) | (apply n8; exact rfl; exact tT_; exact rfl; exact rfl) | (apply p9; exact rfl; exact fF_; exact rfl; exact rfl) | (apply o7; exact rfl; intro _) | (apply q7; first | refine q8 (h := ?_) | refine q9 (h := ?_)) | (apply o9; infer_instance; exact rfl; exact rfl) | (apply m8; infer_instance; infer_instance; exact rfl; exact rfl; (first | exact rfl | omega); exact rfl; (first | assumption | omega | decide)) | ((first | apply k9); exact rfl; exact gG_) | (apply za5; exact rfl; exact gG_; exact rfl) | ((first | apply s9 | apply x9 | apply z8 | apply s7 | apply s8 | apply w4 | apply z9 | apply w5)) | (apply v8; exact rfl; exact tT_) | ((first | apply w6 | apply z6 | apply z0 | apply p5 | apply y0 | apply z7)) | (apply zd3; exact rfl; intro hcond; rotate_left; intro hcond; rotate_left))
        all_goals first
          | (exfalso; omega)
          | (apply p8; apply zf9 Try.results13; exact rV_; exact rV_; intro w' hw; exact ⟨rfl, hw.below (show AO _ from by exact aO_)⟩)
    rw [if_pos ⟨hr.2 ⟨hid, hok.2⟩, hidx.1 hok.1⟩] at hbi
    as_aux_lemma =>
      repeat' (first | (apply v8; exact rfl; exact dT_) | (apply v9; exact rfl; exact dF_) | (apply p9; exact rfl; exact dF_; exact rfl; exact rfl) | (apply k9; exact rfl; exact dF_) | ((first | ((apply t8 (f := 22)); exact rfl) | ((apply t9 (f := 22)); exact rfl; kernel_rfl; exact rfl; exact sJ_)); exact eV_; exact (fun w hw => zr2 hzp w (hV.keep hw (by exact aO_)))) | ((first | ((apply t8 (f := 33)); exact rfl) | ((apply t9 (f := 33)); exact rfl; kernel_rfl; exact rfl; exact sJ_)); exact eV_; exact (fun w _ => zo7 (decide_eq_true hid) w)) | ((first | apply w9 | apply y8 | apply x8 | apply p4); exact rfl; exact rfl) | (apply w7; first | refine u9 (h := ?_) | refine y9 (h := ?_) | refine w8 (h := ?_) | refine q6 (h := ?_) | refine q0 (h := ?_)) | ((first | apply p3 | apply o8 | apply l8 | apply p0); exact rfl; exact rfl; exact rfl) | (apply zd5; exact rfl; exact rfl) | (apply j0; exact rfl; exact rfl; exact rfl; (constructor <;> omega)) | (apply p9; exact rfl; exact fF_; exact rfl; exact rfl) | (apply o7; exact rfl; intro _) | (apply q7; first | refine q8 (h := ?_) | refine q9 (h := ?_)) | (apply o9; infer_instance; exact rfl; exact rfl) | (apply m8; infer_instance; infer_instance; exact rfl; exact rfl; (first | exact rfl | omega); exact rfl; (first | assumption | omega | decide)) | ((first | apply k9); exact rfl; exact gG_) | ((first | apply s9 | apply x9 | apply z8 | apply s7 | apply s8 | apply w4 | apply z9 | apply w5)) | ((first | apply w6 | apply z6 | apply z0 | apply p5 | apply y0 | apply z7)))
      refine o0 (i + 1) ⟨by omega, by rw [take_snoc hx, List.map_append]; exact hbi⟩ (by omega) ?_ ?_
      · exact fS_
      · exact hS_
  obtain rfl : i = p.items.length := by omega
  rw [List.drop_length, Plt.zg5] at hbi
  rw [hbi]
  dsimp only
  clear hlt hi
  repeat' (first | (apply v9; exact rfl; exact dF_) | ((first | apply w9 | apply y8 | apply x8 | apply p4); exact rfl; exact rfl) | (apply w7; first | refine u9 (h := ?_) | refine y9 (h := ?_) | refine w8 (h := ?_) | refine q6 (h := ?_) | refine q0 (h := ?_)) | ((first | apply p3 | apply o8 | apply l8 | apply p0); exact rfl; exact rfl; exact rfl) | (apply o9; infer_instance; exact rfl; exact rfl) | ((first | apply s9 | apply x9 | apply z8 | apply s7 | apply s8 | apply w4 | apply z9 | apply w5)) | ((first | apply w6 | apply z6 | apply z0 | apply p5 | apply y0 | apply z7)))
  apply j9 (σ := Nat) (Fs := fun i => [(12, .int .i64 i), (1, ptr b1)]) (Ls := fun _ => ⟨b1, Ce [.slice a1 p.ms.length c1, .slice a2 p.items.length c2, .slice a3 p.passes.length c3] 33, true⟩ :: []) (I := fun i => i ≤ p.passes.length ∧ Plt.zf7 (Plt.zf5 p.ms) [] [] 0 p.passes = Plt.zf7 (Plt.zf5 p.ms) (psF (Plt.zf5 p.ms) (p.passes.take i)) (tkF (p.passes.take i)) i (p.passes.drop i) ∧ ∀ (j : Nat) (z : Plt.za3), j < i → p.passes[j]? = some z → 0 ≤ Plt.zj4 z.mach (p.ms.map Plt.zb6.id)) (μ := fun i => p.passes.length - i) (s0 := 0)
  · exact ⟨Nat.zero_le _, by simp [psF, tkF], fun j z hj => by omega⟩
  · exact fS_
  · exact hS_
  rintro i ⟨hi, hbp, hpre⟩
  by_cases hlt : i < p.passes.length
  · obtain ⟨y, hy⟩ : ∃ y, p.passes[i]? = some y := ⟨_, List.getElem?_eq_getElem hlt⟩
    rw [Go.Proofs.Ytdahckhlfldkkaa.drop_at hy, Plt.zf7] at hbp
    have hs2 : p.ms.length ≤ 20 ∧ p.passes.length ≤ 60 := by omega
    by_cases hok : Plt.zh1 (Plt.zf5 p.ms) (psF (Plt.zf5 p.ms) (p.passes.take i)) (tkF (p.passes.take i)) y
    case neg =>
      rw [if_neg hok] at hbp
      rw [hbp]
      as_aux_lemma =>
        repeat' (first | (apply v8; exact rfl; exact dT_) | ((first | ((apply t8 (f := 34)); exact rfl) | ((apply t9 (f := 34)); exact rfl; kernel_rfl; exact rfl; exact sJ_)); exact eV_; exact (fun w hw => yn7 hy hpre hs2 (zc2 hok) w (hV.keep hw (by exact aO_)))) | ((first | apply w9 | apply y8 | apply x8 | apply p4); exact rfl; exact rfl) | (apply w7; first | refine u9 (h := ?_) | refine y9 (h := ?_) | refine w8 (h := ?_) | refine q6 (h := ?_) | refine q0 (h := ?_)) | ((first | apply p3 | apply o8 | apply l8 | apply p0); exact rfl; exact rfl; exact rfl) | (apply zd5; exact rfl; exact rfl) | (apply o9; infer_instance; exact rfl; exact rfl) | ((first | apply s9 | apply x9 | apply z8 | apply s7 | apply s8 | apply w4 | apply z9 | apply w5)) | (apply v8; exact rfl; exact tT_) | ((first | apply w6 | apply z6 | apply z0 | apply p5 | apply y0 | apply z7)))
        apply p8; apply zf9 Try.results13; exact rV_; exact rV_; intro w' hw
        exact ⟨rfl, hw.below (show AO _ from by exact aO_)⟩
    rw [if_pos hok] at hbp
    have hm0 := ((Plt.yd6 hy).1 hok.1).2.2.1
    as_aux_lemma =>
      repeat' (first | (apply v8; exact rfl; exact dT_) | ((first | ((apply t8 (f := 34)); exact rfl) | ((apply t9 (f := 34)); exact rfl; kernel_rfl; exact rfl; exact sJ_)); exact eV_; exact (fun w hw => yn7 hy hpre hs2 (zj0 hok) w (hV.keep hw (by exact aO_)))) | ((first | apply w9 | apply y8 | apply x8 | apply p4); exact rfl; exact rfl) | (apply w7; first | refine u9 (h := ?_) | refine y9 (h := ?_) | refine w8 (h := ?_) | refine q6 (h := ?_) | refine q0 (h := ?_)) | ((first | apply p3 | apply o8 | apply l8 | apply p0); exact rfl; exact rfl; exact rfl) | (apply zd5; exact rfl; exact rfl) | (apply j0; exact rfl; exact rfl; exact rfl; (constructor <;> omega)) | (apply o9; infer_instance; exact rfl; exact rfl) | ((first | apply s9 | apply x9 | apply z8 | apply s7 | apply s8 | apply w4 | apply z9 | apply w5)) | (apply v9; exact rfl; exact fF_) | ((first | apply w6 | apply z6 | apply z0 | apply p5 | apply y0 | apply z7)))
      refine o0 (i + 1) ⟨by omega, by rw [zl3 hy, zi7 hy]; exact hbp, fun j z hj hz => ?_⟩ (by omega) ?_ ?_
      · by_cases hji : j = i
        · subst hji; rw [hy] at hz; cases hz; exact hm0
        · exact hpre j z (by omega) hz
      · exact fS_
      · exact hS_
  rw [List.drop_of_length_le (by omega), Plt.zf7] at hbp
  rw [hbp]
  repeat' (first | (apply v9; exact rfl; exact dF_) | ((first | apply w9 | apply y8 | apply x8 | apply p4); exact rfl; exact rfl) | (apply w7; first | refine u9 (h := ?_) | refine y9 (h := ?_) | refine w8 (h := ?_) | refine q6 (h := ?_) | refine q0 (h := ?_)) | ((first | apply p3 | apply o8 | apply l8 | apply p0); exact rfl; exact rfl; exact rfl) | (apply o9; infer_instance; exact rfl; exact rfl) | ((first | apply s9 | apply x9 | apply z8 | apply s7 | apply s8 | apply w4 | apply z9 | apply w5)) | ((first | apply w6 | apply z6 | apply z0 | apply p5 | apply y0 | apply z7)))
  apply p8; apply zf9 Try.results13; exact rV_; exact rV_; intro w' hw
  exact ⟨rfl, hw.below (show AO _ from by exact aO_)⟩
end Go.Proofs.Ytdahckhlfldkkaa
namespace Go.Proofs.Ytdahckhlfldkkaa
open Go Go.Sx Go.RowKit
attribute [local irreducible] WL WC WQ WR WB WF QB St Exit.then Exit.inBlock Exit.noGoto bodyPost roundPost zc1 YR RG BM Calls B zc7 ze3
def yL7 (id : Int) (l : List (Int × Int)) (b : Bool) (v : Value) (N : List Ent) : Prop := ∃ a c, v = .tuple #[.slice a (Plt.zd6 id l).length c, .bool b] ∧ OW 139 3 zj8 (.slice a (Plt.zd6 id l).length c) (Plt.zd6 id l) N ∧ ∀ x ∈ N, x.own = true
set_option maxHeartbeats 8000000 in
theorem zU2 {v : Value} {l : List Plt.Sh} (id t need : Int) (w : World) (h : SV w 2 zs8 v l) (hl : l.length ≤ 200) (hb : ∀ s ∈ l, 0 ≤ s.f ∧ s.f < s.t ∧ s.t ≤ 1051898399) (ht : 0 ≤ t ∧ t ≤ 1051898399) (hn : 0 ≤ need ∧ need ≤ 100000) :
    Calls Try.prog 53 #[v, .int .i64 id, .int .i64 t, .int .i64 need] w fun e w' => ∃ v N, e = .returned v ∧ yL7 id (Plt.g9 t need l) (decide (need ≤ Plt.zb8 (Plt.g9 t need l))) v N ∧ Rep w w' N ∧ ∀ x ∈ N, x.own = true := by
  obtain ⟨a0, c0, rfl, hc0, hop⟩ := h.open
  refine yd2 Try.func53 rfl Try.ntmps53 rfl (Rep.start w) ?_
  repeat' (first | ((first | apply w9 | apply y8 | apply x8); exact rfl; exact rfl) | ((first | apply s9 | apply x9 | apply z8 | apply s7 | apply s8 | apply w4 | apply z9 | apply w5)) | ((first | apply w6 | apply z6 | apply z0 | apply p5 | apply y0 | apply z7)))
  apply j9 (σ := Nat × List (Int × Int) × Int × (Option Addr × Nat) × List Ent) (Fs := fun s => [(11, .int .i64 s.1), (10, .slice s.2.2.2.1.1 (Plt.zd6 id s.2.1).length s.2.2.2.1.2), (3, .int .i64 s.2.2.1), (2, .int .i64 t), (1, .int .i64 id), (0, .slice a0 l.length c0)])
    (Ls := fun s => s.2.2.2.2 ++ []) (I := fun s => (s.1 ≤ l.length ∧ s.2.1.length ≤ s.1) ∧ Plt.g9 t need l = s.2.1 ++ Plt.g9 t s.2.2.1 (l.drop s.1) ∧ (s.2.2.1 = need - Plt.zb8 s.2.1 ∧ 0 ≤ s.2.2.1 ∧ s.2.2.1 ≤ 100000) ∧ OW 139 3 zj8 (.slice s.2.2.2.1.1 (Plt.zd6 id s.2.1).length s.2.2.2.1.2) (Plt.zd6 id s.2.1) s.2.2.2.2)
    (μ := fun s => l.length - s.1) (s0 := (0, [], need, (none, 0), []))
  · exact ⟨⟨Nat.zero_le _, Nat.le_refl _⟩, by simp, by simp [Plt.zb8]; omega, OW.nil⟩
  · exact fS_
  · exact hS_
  rintro ⟨i, out, left, ⟨ao, co⟩, NO⟩ ⟨⟨hi, hol⟩, hsl, ⟨hle, hl0, hl1⟩, hO⟩
  dsimp only at hi hol hsl hle hl0 hl1 hO ⊢
  have oO := hO.own
  have h3l := Plt.zj6 id out
  have hfin : l.drop i = [] ∨ left = 0 → Plt.g9 t need l = out ∧ decide (need ≤ Plt.zb8 (Plt.g9 t need l)) = decide (left ≤ 0) := fun h => by
    have e : Plt.g9 t need l = out := by
      rcases h with h | h
      · rw [hsl, h, Plt.g9, List.append_nil]
      · rw [hsl, h, Plt.zC6, List.append_nil]
    refine ⟨e, ?_⟩
    rw [e]
    exact decide_eq_decide.2 (by omega)
  by_cases hlt : i < l.length
  · by_cases hz : left = 0
    · obtain ⟨e1, e2⟩ := hfin (.inr hz)
      rw [e2, e1]
      subst hz
      repeat' (first | (apply v9; exact rfl; exact dF_) | (apply n8; exact rfl; exact dT_; exact rfl; exact rfl) | (apply k9; exact rfl; exact dT_) | ((first | apply w9 | apply y8 | apply x8); exact rfl; exact rfl) | ((first | apply p3 | apply zc8 | apply o8); exact rfl; exact rfl; exact rfl) | (apply o9; infer_instance; exact rfl; exact rfl) | ((first | apply s9 | apply x9 | apply z8 | apply s7 | apply s8 | apply w4 | apply z9 | apply w5)) | ((first | apply w6 | apply z6 | apply z0 | apply p5 | apply y0 | apply z7)))
      apply p8; apply zf9 Try.results53; exact rV_; exact rV_; intro w' hw
      exact ⟨_, NO, rfl, ⟨ao, co, rfl, hO, oO⟩, hw.sub (by exact hS_), oO⟩
    obtain ⟨⟨sf, su⟩, hx⟩ : ∃ s, l[i]? = some s := ⟨_, List.getElem?_eq_getElem hlt⟩
    have hsb := hb _ (List.mem_of_getElem? hx)
    dsimp only at hsb
    obtain ⟨b, off, cc, e, fz, rfl, hk, hp⟩ := hop (by omega)
    have g1 : ∀ j u, ([.int .i64 sf, .int .i64 su] : List Value)[j]? = some u → cc[off + i * 2 + j]? = some u := hp.get hx
    rw [drop_at hx, Plt.yg6 (by omega)] at hsl
    dsimp only at hsl
    clear hfin
    by_cases h1 : sf < t
    · by_cases h2 : t + left < su
      · rw [show max sf t = t by omega, show min su (t + left) = t + left by omega, if_pos (by omega)] at hsl
        have e1 := Plt.zy0 id out (t, t + left)
        dsimp only at e1
        as_aux_lemma =>
          repeat' (first | (apply v8; exact rfl; exact dT_) | (apply n8; exact rfl; exact dT_; exact rfl; exact rfl) | (apply k9; exact rfl; exact dT_) | (apply zc4 (enc := zj8) (ys := [((id, t, t + left))]); infer_instance; infer_instance; infer_instance; exact rfl; exact ze9; exact zw7; exact rfl; exact rfl; exact rfl; assumption; exact rL_; (exact fun w hw => SV.lit [((id, t, t + left))] ze9 hw (by exact aT_) rfl rfl (by decide)); (first | decide | (constructor <;> (try simp only [List.length_cons, List.length_nil]) <;> omega) | (constructor <;> simp <;> omega)); intro a_ cp_ N_ hO_; have oN_ := hO_.own; (try simp only [List.nil_append, List.append_assoc] at hO_); (try simp only [List.append_eq, List.append_assoc, List.cons_append, List.nil_append])) | ((first | apply w9 | apply y8 | apply x8); exact rfl; exact rfl) | ((first | apply p3 | apply zc8 | apply o8); exact rfl; exact rfl; exact rfl) | ((first | apply j0 | apply ze5); exact rfl; exact rfl; exact rfl; (constructor <;> omega)) | (apply g7; first | refine a8 (h := ?_)) | (apply o9; infer_instance; exact rfl; exact rfl) | (apply m9; refine l9 (h := fun _ => ?_)) | ((first | apply s9 | apply x9 | apply z8 | apply s7 | apply s8 | apply w4 | apply z9 | apply w5)) | ((first | apply w6 | apply z6 | apply z0 | apply p5 | apply y0 | apply z7)) | ((apply p6 (id := 5) []); kernel_rfl; kernel_rfl) | (apply za6; try simp only [za9, List.cons_append, List.nil_append]) | ((first | apply i9 | apply n9 | apply m5); exact rfl; exact rfl) | (apply zb4; exact rfl; exact rfl) | (apply m0; first | refine k8 (h := ?_) | refine p7 (h := ?_) | refine m6 (h := ?_) | refine d8 (h := ?_) | refine d7 (h := ?_)) | (apply zc3; infer_instance; infer_instance; exact rfl; exact rfl; (first | exact rfl | omega); exact rfl; (first | assumption | omega | decide)))
          refine o0 (i + 1, out ++ [(t, t + left)], left - (t + left - (t)), (a_, cp_), N_) ⟨⟨by dsimp only; omega, by dsimp only; rw [List.length_append]; simp; omega⟩, by dsimp only; rw [hsl]; simp, ⟨by dsimp only; rw [Plt.zy1]; simp [Plt.zb8]; omega, by dsimp only; omega, by dsimp only; omega⟩, by dsimp only; rw [e1]; exact hO_⟩ (by dsimp only; omega) ?_ ?_
          · dsimp only; rw [e1]; exact fS_
          · exact hS_
      · by_cases h3 : t < su
        · rw [show max sf t = t by omega, show min su (t + left) = su by omega, if_pos (by omega)] at hsl
          have e1 := Plt.zy0 id out (t, su)
          dsimp only at e1
          as_aux_lemma =>
            repeat' (first | (apply v8; exact rfl; exact dT_) | (apply v9; exact rfl; exact dF_) | (apply n8; exact rfl; exact dT_; exact rfl; exact rfl) | (apply k9; exact rfl; exact dT_) | (apply zc4 (enc := zj8) (ys := [((id, t, su))]); infer_instance; infer_instance; infer_instance; exact rfl; exact ze9; exact zw7; exact rfl; exact rfl; exact rfl; assumption; exact rL_; (exact fun w hw => SV.lit [((id, t, su))] ze9 hw (by exact aT_) rfl rfl (by decide)); (first | decide | (constructor <;> (try simp only [List.length_cons, List.length_nil]) <;> omega) | (constructor <;> simp <;> omega)); intro a_ cp_ N_ hO_; have oN_ := hO_.own; (try simp only [List.nil_append, List.append_assoc] at hO_); (try simp only [List.append_eq, List.append_assoc, List.cons_append, List.nil_append])) | ((first | apply w9 | apply y8 | apply x8); exact rfl; exact rfl) | ((first | apply p3 | apply zc8 | apply o8); exact rfl; exact rfl; exact rfl) | ((first | apply j0 | apply ze5); exact rfl; exact rfl; exact rfl; (constructor <;> omega)) | (apply g7; first | refine a8 (h := ?_)) | (apply o9; infer_instance; exact rfl; exact rfl) | (apply m9; refine l9 (h := fun _ => ?_)) | ((first | apply s9 | apply x9 | apply z8 | apply s7 | apply s8 | apply w4 | apply z9 | apply w5)) | ((first | apply w6 | apply z6 | apply z0 | apply p5 | apply y0 | apply z7)) | ((apply p6 (id := 5) []); kernel_rfl; kernel_rfl) | (apply za6; try simp only [za9, List.cons_append, List.nil_append]) | ((first | apply i9 | apply n9 | apply m5); exact rfl; exact rfl) | (apply zb4; exact rfl; exact rfl) | (apply m0; first | refine k8 (h := ?_) | refine p7 (h := ?_) | refine m6 (h := ?_) | refine d8 (h := ?_) | refine d7 (h := ?_)) | (apply zc3; infer_instance; infer_instance; exact rfl; exact rfl; (first | exact rfl | omega); exact rfl; (first | assumption | omega | decide)))
            refine o0 (i + 1, out ++ [(t, su)], left - (su - (t)), (a_, cp_), N_) ⟨⟨by dsimp only; omega, by dsimp only; rw [List.length_append]; simp; omega⟩, by dsimp only; rw [hsl]; simp, ⟨by dsimp only; rw [Plt.zy1]; simp [Plt.zb8]; omega, by dsimp only; omega, by dsimp only; omega⟩, by dsimp only; rw [e1]; exact hO_⟩ (by dsimp only; omega) ?_ ?_
            · dsimp only; rw [e1]; exact fS_
            · exact hS_
        · rw [show max sf t = t by omega, show min su (t + left) = su by omega, if_neg (by omega)] at hsl
          as_aux_lemma =>
            repeat' (first | (apply v8; exact rfl; exact dT_) | (apply v9; exact rfl; exact dF_) | (apply n8; exact rfl; exact dT_; exact rfl; exact rfl) | (apply k9; exact rfl; exact dT_) | ((first | apply w9 | apply y8 | apply x8); exact rfl; exact rfl) | ((first | apply p3 | apply zc8 | apply o8); exact rfl; exact rfl; exact rfl) | ((first | apply j0 | apply ze5); exact rfl; exact rfl; exact rfl; (constructor <;> omega)) | (apply o9; infer_instance; exact rfl; exact rfl) | ((first | apply s9 | apply x9 | apply z8 | apply s7 | apply s8 | apply w4 | apply z9 | apply w5)) | ((first | apply w6 | apply z6 | apply z0 | apply p5 | apply y0 | apply z7)) | ((apply p6 (id := 5) []); kernel_rfl; kernel_rfl) | (apply za6; try simp only [za9, List.cons_append, List.nil_append]) | ((first | apply i9 | apply n9 | apply m5); exact rfl; exact rfl) | (apply zb4; exact rfl; exact rfl) | (apply m0; first | refine k8 (h := ?_) | refine p7 (h := ?_) | refine m6 (h := ?_) | refine d8 (h := ?_) | refine d7 (h := ?_)) | (apply zc3; infer_instance; infer_instance; exact rfl; exact rfl; (first | exact rfl | omega); exact rfl; (first | assumption | omega | decide)))
            refine o0 (i + 1, out, left, (ao, co), NO) ⟨⟨by dsimp only; omega, by dsimp only; omega⟩, hsl, ⟨hle, hl0, hl1⟩, hO⟩ (by dsimp only; omega) ?_ ?_
            · exact fS_
            · exact hS_
    · by_cases h2 : sf + left < su
      · rw [show max sf t = sf by omega, show min su (sf + left) = sf + left by omega, if_pos (by omega)] at hsl
        have e1 := Plt.zy0 id out (sf, sf + left)
        dsimp only at e1
        as_aux_lemma =>
          repeat' (first | (apply v8; exact rfl; exact dT_) | (apply v9; exact rfl; exact dF_) | (apply n8; exact rfl; exact dT_; exact rfl; exact rfl) | (apply k9; exact rfl; exact dT_) | (apply zc4 (enc := zj8) (ys := [((id, sf, sf + left))]); infer_instance; infer_instance; infer_instance; exact rfl; exact ze9; exact zw7; exact rfl; exact rfl; exact rfl; assumption; exact rL_; (exact fun w hw => SV.lit [((id, sf, sf + left))] ze9 hw (by exact aT_) rfl rfl (by decide)); (first | decide | (constructor <;> (try simp only [List.length_cons, List.length_nil]) <;> omega) | (constructor <;> simp <;> omega)); intro a_ cp_ N_ hO_; have oN_ := hO_.own; (try simp only [List.nil_append, List.append_assoc] at hO_); (try simp only [List.append_eq, List.append_assoc, List.cons_append, List.nil_append])) | ((first | apply w9 | apply y8 | apply x8); exact rfl; exact rfl) | ((first | apply p3 | apply zc8 | apply o8); exact rfl; exact rfl; exact rfl) | ((first | apply j0 | apply ze5); exact rfl; exact rfl; exact rfl; (constructor <;> omega)) | (apply g7; first | refine a8 (h := ?_)) | (apply o9; infer_instance; exact rfl; exact rfl) | (apply m9; refine l9 (h := fun _ => ?_)) | ((first | apply s9 | apply x9 | apply z8 | apply s7 | apply s8 | apply w4 | apply z9 | apply w5)) | ((first | apply w6 | apply z6 | apply z0 | apply p5 | apply y0 | apply z7)) | ((apply p6 (id := 5) []); kernel_rfl; kernel_rfl) | (apply za6; try simp only [za9, List.cons_append, List.nil_append]) | ((first | apply i9 | apply n9 | apply m5); exact rfl; exact rfl) | (apply zb4; exact rfl; exact rfl) | (apply m0; first | refine k8 (h := ?_) | refine p7 (h := ?_) | refine m6 (h := ?_) | refine d8 (h := ?_) | refine d7 (h := ?_)) | (apply zc3; infer_instance; infer_instance; exact rfl; exact rfl; (first | exact rfl | omega); exact rfl; (first | assumption | omega | decide)))
          refine o0 (i + 1, out ++ [(sf, sf + left)], left - (sf + left - (sf)), (a_, cp_), N_) ⟨⟨by dsimp only; omega, by dsimp only; rw [List.length_append]; simp; omega⟩, by dsimp only; rw [hsl]; simp, ⟨by dsimp only; rw [Plt.zy1]; simp [Plt.zb8]; omega, by dsimp only; omega, by dsimp only; omega⟩, by dsimp only; rw [e1]; exact hO_⟩ (by dsimp only; omega) ?_ ?_
          · dsimp only; rw [e1]; exact fS_
          · exact hS_
      · rw [show max sf t = sf by omega, show min su (sf + left) = su by omega, if_pos (by omega)] at hsl
        have e1 := Plt.zy0 id out (sf, su)
        dsimp only at e1
        as_aux_lemma =>
          repeat' (first | (apply v8; exact rfl; exact dT_) | (apply v9; exact rfl; exact dF_) | (apply n8; exact rfl; exact dT_; exact rfl; exact rfl) | (apply k9; exact rfl; exact dT_) | (apply zc4 (enc := zj8) (ys := [((id, sf, su))]); infer_instance; infer_instance; infer_instance; exact rfl; exact ze9; exact zw7; exact rfl; exact rfl; exact rfl; assumption; exact rL_; (exact fun w hw => SV.lit [((id, sf, su))] ze9 hw (by exact aT_) rfl rfl (by decide)); (first | decide | (constructor <;> (try simp only [List.length_cons, List.length_nil]) <;> omega) | (constructor <;> simp <;> omega)); intro a_ cp_ N_ hO_; have oN_ := hO_.own; (try simp only [List.nil_append, List.append_assoc] at hO_); (try simp only [List.append_eq, List.append_assoc, List.cons_append, List.nil_append])) | ((first | apply w9 | apply y8 | apply x8); exact rfl; exact rfl) | ((first | apply p3 | apply zc8 | apply o8); exact rfl; exact rfl; exact rfl) | ((first | apply j0 | apply ze5); exact rfl; exact rfl; exact rfl; (constructor <;> omega)) | (apply g7; first | refine a8 (h := ?_)) | (apply o9; infer_instance; exact rfl; exact rfl) | (apply m9; refine l9 (h := fun _ => ?_)) | ((first | apply s9 | apply x9 | apply z8 | apply s7 | apply s8 | apply w4 | apply z9 | apply w5)) | ((first | apply w6 | apply z6 | apply z0 | apply p5 | apply y0 | apply z7)) | ((apply p6 (id := 5) []); kernel_rfl; kernel_rfl) | (apply za6; try simp only [za9, List.cons_append, List.nil_append]) | ((first | apply i9 | apply n9 | apply m5); exact rfl; exact rfl) | (apply zb4; exact rfl; exact rfl) | (apply m0; first | refine k8 (h := ?_) | refine p7 (h := ?_) | refine m6 (h := ?_) | refine d8 (h := ?_) | refine d7 (h := ?_)) | (apply zc3; infer_instance; infer_instance; exact rfl; exact rfl; (first | exact rfl | omega); exact rfl; (first | assumption | omega | decide)))
          refine o0 (i + 1, out ++ [(sf, su)], left - (su - (sf)), (a_, cp_), N_) ⟨⟨by dsimp only; omega, by dsimp only; rw [List.length_append]; simp; omega⟩, by dsimp only; rw [hsl]; simp, ⟨by dsimp only; rw [Plt.zy1]; simp [Plt.zb8]; omega, by dsimp only; omega, by dsimp only; omega⟩, by dsimp only; rw [e1]; exact hO_⟩ (by dsimp only; omega) ?_ ?_
          · dsimp only; rw [e1]; exact fS_
          · exact hS_
  obtain ⟨e1, e2⟩ := hfin (.inl (List.drop_of_length_le (by omega)))
  rw [e2, e1]
  repeat' (first | (apply p9; exact rfl; exact dF_; exact rfl; exact rfl) | (apply za5; exact rfl; exact dF_; exact rfl) | ((first | apply w9 | apply y8 | apply x8); exact rfl; exact rfl) | ((first | apply p3 | apply zc8 | apply o8); exact rfl; exact rfl; exact rfl) | (apply o9; infer_instance; exact rfl; exact rfl) | ((first | apply s9 | apply x9 | apply z8 | apply s7 | apply s8 | apply w4 | apply z9 | apply w5)) | (apply v9; exact rfl; exact fF_) | ((first | apply w6 | apply z6 | apply z0 | apply p5 | apply y0 | apply z7)))
  apply p8; apply zf9 Try.results53; exact rV_; exact rV_; intro w' hw
  exact ⟨_, NO, rfl, ⟨ao, co, rfl, hO, oO⟩, hw.sub (by exact hS_), oO⟩
theorem zS0 {q : PlD} {p : Plt.g8} {i : Nat} {y : Plt.za3} {d : PD} {k : Nat} {z : Plt.Item} (hv : Plt.Valid p) (hy : p.passes[i]? = some y) (hz : p.items[k]? = some z) (w : World) (h : PlV w q p) (hd : PassV w d y) :
    Calls Try.prog 54 #[plV q, .agg #[.int .i64 d.id, .int .i64 d.mach, .int .i64 d.rel, sdV d.src, sdV d.table, sdV d.unread], .int .i64 z.id] w fun e w' => e = .returned (.int .i64 (Plt.zb9 (Plt.zc0 p.items) y z.id).st) ∧ Below w.heap.size w w' := by
  have hV := h
  obtain ⟨⟨a1, n1, c1⟩, ⟨a2, n2, c2⟩, ⟨a3, n3, c3⟩, ds, ys⟩ := q
  obtain ⟨hM, hI, hP, lm, lp, hmach, hpass⟩ := h
  dsimp only [sdV, plV] at hM hI hP lm lp hmach hpass ⊢
  obtain ⟨_, _, e1, hc1, hop1⟩ := hM.open
  cases e1
  obtain ⟨_, _, e2, hc2, hop2⟩ := hI.open
  cases e2
  obtain ⟨_, _, e3, hc3, hop3⟩ := hP.open
  cases e3
  rw [lm] at hc1 hop1 hM hV ⊢
  rw [lp] at hc3 hop3 hP hV ⊢
  obtain ⟨x1, k1, x2, k2, x3, k3, rfl⟩ := hd.eqs
  obtain ⟨-, -, -, hsrc, htab, hunr⟩ := hd
  dsimp only [sdV] at hsrc htab hunr ⊢
  obtain ⟨_, _, e5, hc5, hop5⟩ := htab.open
  cases e5
  obtain ⟨_, _, e6, hc6, hop6⟩ := hunr.open
  cases e6
  have hrn := Plt.rows_nodup (hv.pok i y hy).2.2.2
  have hnd := hrn.1
  have hsz := (hv.pok i y hy).2.2.1
  have hkl := (List.getElem?_eq_some_iff.1 hz).1
  have hzm : (p.items.map Plt.Item.id)[k]? = some z.id := by rw [List.getElem?_map, hz]; rfl
  have hzp : Plt.zj4 z.id (p.items.map Plt.Item.id) = (k : Int) := by
    rw [Plt.zB6 hzm]
    intro hm
    obtain ⟨n, hn⟩ := List.getElem?_of_mem hm
    have hnl := (List.getElem?_eq_some_iff.1 hn).1
    rw [List.length_take] at hnl
    rw [List.getElem?_take_of_lt (by omega)] at hn
    have := (List.getElem?_inj (List.getElem?_eq_some_iff.1 hn).1 hv.ind).1 (hn.trans hzm.symm)
    omega
  obtain ⟨b2, off2, cc2, ee2, fz2, rfl, hk2, hp2⟩ := hop2 (by omega)
  have gz : ∀ j u, ([.int .i64 z.id, .int .i64 z.stop, .int .i64 z.batch] : List Value)[j]? = some u → cc2[off2 + k * 3 + j]? = some u := hp2.get hz
  obtain ⟨st, hst⟩ : ∃ st, (Plt.zb9 (Plt.zc0 p.items) y z.id).st = st := ⟨_, rfl⟩
  rw [hst]
  refine zd8 Try.func54 rfl Try.ntmps54 rfl (Rep.start w) ?_
  repeat' (first | ((first | apply w9 | apply y8 | apply x8); exact rfl; exact rfl) | (apply zc5; exact rfl; exact rfl; exact rfl; intro _) | ((first | apply s9 | apply x9 | apply z8 | apply s7 | apply s8 | apply w4 | apply z9 | apply w5)) | ((first | apply w6 | apply z6 | apply z0 | apply p5 | apply y0 | apply z7)))
  rename_i b3 b4
  apply j9 (σ := Nat) (Fs := fun n => [(7, .int .i64 n), (4, ptr b4), (3, ptr b3), (2, .int .i64 z.id)]) (Ls := fun _ => ⟨b4, Ce [.int .i64 y.id, .int .i64 y.mach, .int .i64 y.rel, .slice x1 y.src.length k1, .slice x2 y.table.length k2, .slice x3 y.unread.length k3] 93, true⟩ :: ⟨b3, Ce [.slice a1 p.ms.length c1, .slice (some ⟨b2, off2, none⟩) p.items.length c2, .slice a3 p.passes.length c3] 33, true⟩ :: []) (I := fun n => n ≤ y.unread.length ∧ ∀ x ∈ y.unread.take n, x ≠ z.id) (μ := fun n => y.unread.length - n) (s0 := 0)
  · exact ⟨Nat.zero_le _, by simp⟩
  · exact fS_
  · exact hS_
  rintro n ⟨hn, hne⟩
  by_cases hlt : n < y.unread.length
  · obtain ⟨u, hx⟩ : ∃ s, y.unread[n]? = some s := ⟨_, List.getElem?_eq_getElem hlt⟩
    obtain ⟨b, off, cc, e, fz, rfl, hk, hp⟩ := hop6 (by omega)
    have g1 := hp.one hx rfl
    by_cases hu : u = z.id
    · rw [Plt.yd3 (by rw [← hu]; exact List.mem_of_getElem? hx)] at hst
      subst hst
      as_aux_lemma =>
        repeat' (first | (apply v8; exact rfl; exact dT_) | ((first | apply w9 | apply y8 | apply x8); exact rfl; exact rfl) | (apply w7; first | refine u9 (h := ?_) | refine y9 (h := ?_) | refine w8 (h := ?_) | refine q6 (h := ?_) | refine q0 (h := ?_)) | ((first | apply p3 | apply l0); exact rfl; exact rfl; exact rfl) | (apply o9; infer_instance; exact rfl; exact rfl) | (apply m8; infer_instance; infer_instance; exact rfl; exact rfl; (first | exact rfl | omega); exact rfl; (first | assumption | omega | decide)) | ((first | apply s9 | apply x9 | apply z8 | apply s7 | apply s8 | apply w4 | apply z9 | apply w5)) | ((first | apply w6 | apply z6 | apply z0 | apply p5 | apply y0 | apply z7)))
        apply p8; apply zb0 Try.results54; exact rV_; intro w' hw
        exact ⟨rfl, hw.below (by simp)⟩
    · as_aux_lemma =>
        repeat' (first | (apply v8; exact rfl; exact dT_) | (apply v9; exact rfl; exact dF_) | ((first | apply w9 | apply y8 | apply x8); exact rfl; exact rfl) | (apply w7; first | refine u9 (h := ?_) | refine y9 (h := ?_) | refine w8 (h := ?_) | refine q6 (h := ?_) | refine q0 (h := ?_)) | ((first | apply p3 | apply l0); exact rfl; exact rfl; exact rfl) | (apply j0; exact rfl; exact rfl; exact rfl; (constructor <;> omega)) | (apply o9; infer_instance; exact rfl; exact rfl) | (apply m8; infer_instance; infer_instance; exact rfl; exact rfl; (first | exact rfl | omega); exact rfl; (first | assumption | omega | decide)) | ((first | apply s9 | apply x9 | apply z8 | apply s7 | apply s8 | apply w4 | apply z9 | apply w5)) | ((first | apply w6 | apply z6 | apply z0 | apply p5 | apply y0 | apply z7)))
        refine o0 (n + 1) ⟨by omega, zh0 hx hne hu⟩ (by omega) ?_ ?_
        · exact fS_
        · exact hS_
  rw [List.take_of_length_le (by omega)] at hne
  have hur : z.id ∉ y.unread := fun hm => hne _ hm rfl
  repeat' (first | (apply v9; exact rfl; exact dF_) | ((first | apply w9 | apply y8 | apply x8); exact rfl; exact rfl) | (apply w7; first | refine u9 (h := ?_) | refine y9 (h := ?_) | refine w8 (h := ?_) | refine q6 (h := ?_) | refine q0 (h := ?_)) | ((first | apply p3 | apply l0); exact rfl; exact rfl; exact rfl) | (apply o9; infer_instance; exact rfl; exact rfl) | ((first | apply s9 | apply x9 | apply z8 | apply s7 | apply s8 | apply w4 | apply z9 | apply w5)) | ((first | apply w6 | apply z6 | apply z0 | apply p5 | apply y0 | apply z7)))
  apply j9 (σ := Nat) (Fs := fun n => [(8, .int .i64 n), (4, ptr b4), (3, ptr b3), (2, .int .i64 z.id)]) (Ls := fun _ => ⟨b4, Ce [.int .i64 y.id, .int .i64 y.mach, .int .i64 y.rel, .slice x1 y.src.length k1, .slice x2 y.table.length k2, .slice x3 y.unread.length k3] 93, true⟩ :: ⟨b3, Ce [.slice a1 p.ms.length c1, .slice (some ⟨b2, off2, none⟩) p.items.length c2, .slice a3 p.passes.length c3] 33, true⟩ :: []) (I := fun n => n ≤ y.table.length ∧ ∀ s ∈ (y.table.map Plt.Row.stop).take n, s ≠ z.stop) (μ := fun n => y.table.length - n) (s0 := 0)
  · exact ⟨Nat.zero_le _, by simp⟩
  · exact fS_
  · exact hS_
  rintro m ⟨hm, hme⟩
  by_cases hml : m < y.table.length
  · obtain ⟨⟨es, et⟩, hx⟩ : ∃ s, y.table[m]? = some s := ⟨_, List.getElem?_eq_getElem hml⟩
    obtain ⟨b, off, cc, e, fz, rfl, hk, hp⟩ := hop5 (by omega)
    have g1 : ∀ j u, ([.int .i64 es, .int .i64 et] : List Value)[j]? = some u → cc[off + m * 2 + j]? = some u := hp.get hx
    have hmm : (y.table.map Plt.Row.stop)[m]? = some es := by rw [List.getElem?_map, hx]; rfl
    by_cases he : es = z.stop
    · rw [Plt.yv2 hv hnd hz hur (List.mem_of_getElem? hx) he] at hst
      subst hst
      as_aux_lemma =>
        repeat' (first | (apply v8; exact rfl; exact dT_) | ((first | ((apply t8 (f := 22)); exact rfl) | ((apply t9 (f := 22)); exact rfl; kernel_rfl; exact rfl; exact sJ_)); exact eV_; exact (fun w hw => zr2 hzp w (hV.keep hw (by exact aO_)))) | ((first | apply w9 | apply y8 | apply x8); exact rfl; exact rfl) | (apply za7; exact rfl; exact rfl) | (apply w7; first | refine u9 (h := ?_) | refine y9 (h := ?_) | refine w8 (h := ?_) | refine q6 (h := ?_) | refine q0 (h := ?_)) | ((first | apply p3 | apply l0); exact rfl; exact rfl; exact rfl) | (apply o9; infer_instance; exact rfl; exact rfl) | (apply m8; infer_instance; infer_instance; exact rfl; exact rfl; (first | exact rfl | omega); exact rfl; (first | assumption | omega | decide)) | ((first | apply s9 | apply x9 | apply z8 | apply s7 | apply s8 | apply w4 | apply z9 | apply w5)) | ((first | apply w6 | apply z6 | apply z0 | apply p5 | apply y0 | apply z7)) | ((apply p6 (id := 9) []); kernel_rfl; kernel_rfl) | (apply za6; try simp only [za9, List.cons_append, List.nil_append]) | ((first | apply i9 | apply n9 | apply m5); exact rfl; exact rfl) | (apply zb4; exact rfl; exact rfl) | (apply m0; first | refine k8 (h := ?_) | refine p7 (h := ?_) | refine m6 (h := ?_) | refine d8 (h := ?_) | refine d7 (h := ?_)) | ((first | apply ze6 | apply zi4); exact rfl; exact rfl; exact rfl) | (apply zc3; infer_instance; infer_instance; exact rfl; exact rfl; (first | exact rfl | omega); exact rfl; (first | assumption | omega | decide)))
        apply p8; apply zb0 Try.results54; exact rV_; intro w' hw
        exact ⟨rfl, hw.below (by simp)⟩
    · as_aux_lemma =>
        repeat' (first | (apply v8; exact rfl; exact dT_) | (apply v9; exact rfl; exact dF_) | ((first | ((apply t8 (f := 22)); exact rfl) | ((apply t9 (f := 22)); exact rfl; kernel_rfl; exact rfl; exact sJ_)); exact eV_; exact (fun w hw => zr2 hzp w (hV.keep hw (by exact aO_)))) | ((first | apply w9 | apply y8 | apply x8); exact rfl; exact rfl) | (apply w7; first | refine u9 (h := ?_) | refine y9 (h := ?_) | refine w8 (h := ?_) | refine q6 (h := ?_) | refine q0 (h := ?_)) | ((first | apply p3 | apply l0); exact rfl; exact rfl; exact rfl) | (apply j0; exact rfl; exact rfl; exact rfl; (constructor <;> omega)) | (apply o9; infer_instance; exact rfl; exact rfl) | ((first | apply s9 | apply x9 | apply z8 | apply s7 | apply s8 | apply w4 | apply z9 | apply w5)) | ((first | apply w6 | apply z6 | apply z0 | apply p5 | apply y0 | apply z7)) | ((apply p6 (id := 9) []); kernel_rfl; kernel_rfl) | (apply za6; try simp only [za9, List.cons_append, List.nil_append]) | ((first | apply i9 | apply n9 | apply m5); exact rfl; exact rfl) | (apply zb4; exact rfl; exact rfl) | (apply m0; first | refine k8 (h := ?_) | refine p7 (h := ?_) | refine m6 (h := ?_) | refine d8 (h := ?_) | refine d7 (h := ?_)) | ((first | apply ze6 | apply zi4); exact rfl; exact rfl; exact rfl) | (apply zc3; infer_instance; infer_instance; exact rfl; exact rfl; (first | exact rfl | omega); exact rfl; (first | assumption | omega | decide)))
        refine o0 (m + 1) ⟨by omega, zh0 hmm hme he⟩ (by omega) ?_ ?_
        · exact fS_
        · exact hS_
  rw [List.take_of_length_le (by rw [List.length_map]; omega)] at hme
  rw [Plt.yC0 hv hnd hz hur (fun g => hme _ g rfl)] at hst
  subst hst
  repeat' (first | (apply v9; exact rfl; exact dF_) | ((first | apply w9 | apply y8 | apply x8); exact rfl; exact rfl) | (apply w7; first | refine u9 (h := ?_) | refine y9 (h := ?_) | refine w8 (h := ?_) | refine q6 (h := ?_) | refine q0 (h := ?_)) | ((first | apply p3 | apply l0); exact rfl; exact rfl; exact rfl) | (apply o9; infer_instance; exact rfl; exact rfl) | ((first | apply s9 | apply x9 | apply z8 | apply s7 | apply s8 | apply w4 | apply z9 | apply w5)) | ((first | apply w6 | apply z6 | apply z0 | apply p5 | apply y0 | apply z7)))
  apply p8; apply zb0 Try.results54; exact rV_; intro w' hw
  exact ⟨rfl, hw.below (by simp)⟩
end Go.Proofs.Ytdahckhlfldkkaa
namespace Go.Proofs.Ytdahckhlfldkkaa
open Go Go.Sx Go.RowKit
attribute [local irreducible] WL WC WQ WR WB WF QB St Exit.then Exit.inBlock Exit.noGoto bodyPost roundPost zc1 YR RG BM Calls B zc7 ze3
theorem yK8 : (Plt.za2 (Plt.zu2 20)).length = 2 := by rw [Plt.zh6]; rfl
theorem yK7 : (Plt.za2 (Plt.zu2 14)).length = 2 := by rw [Plt.zh6]; rfl
set_option maxHeartbeats 16000000 in
set_option maxRecDepth 100000 in
theorem yc5 (w : World) : Calls Try.prog 6 #[] w fun e w' => e = .returned (.bool true) ∧ Below w.heap.size w w' := by
  have hl20 := yK8
  have hl14 := yK7
  obtain ⟨r0, hr0, e01, e02, e03, e04, e05⟩ := Plt.yB1
  obtain ⟨r1, hr1, e11, e12, e13, e14⟩ := Plt.yB2
  obtain ⟨s0, hs0, f01⟩ := Plt.yA9
  obtain ⟨s1, hs1, f11, f12, f13⟩ := Plt.yB0
  refine zP8 Try.func6 rfl Try.ntmps6 rfl (Rep.start w) ?_
  repeat' (first | ((first | ((with_reducible apply f5 (f := 11)); exact rfl) | ((with_reducible apply d6 (f := 11)); exact rfl; exact rfl; exact sJ_)); exact eV_; exact (fun w _ => zE4 w); rintro v NE ⟨b1, b2, b3, b4, b5, b6, b7, b8, b9, rfl, rfl⟩ <;> (try simp only [List.cons_append, List.nil_append])) | ((first | ((with_reducible apply f5 (f := 16)); exact rfl) | ((with_reducible apply d6 (f := 16)); exact rfl; exact rfl; exact sJ_)); exact eV_; exact (fun w hw => zs2 (Plt.zD3 Plt.zs9) w (zF9 _ _ _ _ (by exact rL_) hw)); rintro v NR ⟨ar, cr, rds, rfl, ⟨hsh, hrl⟩, oR⟩ <;> (try simp only [List.cons_append, List.nil_append])) | ((with_reducible first | apply w9 | apply y8 | apply x8 | apply p4); exact rfl; exact rfl) | ((with_reducible apply w7); first | refine u9 (h := ?_) | refine y9 (h := ?_) | refine w8 (h := ?_) | refine q6 (h := ?_) | refine q0 (h := ?_)) | ((with_reducible first | apply l0 | apply l8 | apply p0); exact rfl; exact rfl; exact rfl) | ((with_reducible apply p9); exact rfl; exact fF_; exact rfl; exact rfl) | ((with_reducible apply o7); exact rfl; intro _) | ((with_reducible apply q7); first | refine q8 (h := ?_) | refine q9 (h := ?_)) | ((with_reducible apply o9); infer_instance; exact rfl; exact rfl) | ((with_reducible first | apply k9); exact rfl; exact gG_) | ((with_reducible first | apply s9 | apply x9 | apply z8 | apply s7 | apply s8 | apply w4 | apply z9 | apply w5)) | ((with_reducible first | apply w6 | apply z6 | apply z0 | apply p5 | apply y0 | apply z7)) | ((with_reducible first | apply yx0 | apply yx1)))
  refine zE2 (fun w' hw' => RunsV.at (hsh _ _ _ _ (by exact rL_) hw') hr0) ?_
  rintro ⟨br, offr, x1, k1, x2, k2, x3, n3, k3, x4, n4, k4, x5, k5, x6, k6, x7, n7, k7, rfl, hd0, hn3, g0⟩
  refine zE2 (fun w' hw' => RunsV.at (hsh _ _ _ _ (by exact rL_) hw') hr1) ?_
  rintro ⟨br', offr', y1, l1, y2, l2, y3, m3, l3, y4, m4, l4, y5, l5, y6, l6, y7, m7, l7, ebr, hd1, hm3, g1⟩
  cases ebr
  have hsl : (Plt.zd6 r0.pass r0.slices)[1]? = some (3, 10, 12) := by rw [e03, e04]; rfl
  refine zE2 (fun w' hw' => SV.ptr ((hsh _ _ _ _ (by exact rL_) hw').2.2 0 _ _ hd0 hr0).slices hsl) ?_
  rintro ⟨bs, offs, rfl⟩
  have hsn0 : r0.slices.length = 2 := by rw [e04]; rfl
  repeat' (first | ((with_reducible apply p9); exact rfl; exact dF_; exact rfl; exact rfl) | ((with_reducible apply k9); exact rfl; exact dF_) | ((with_reducible apply m8 (m := 0)); infer_instance; infer_instance; exact rfl; exact rfl; exact rfl; exact rfl; omega) | ((with_reducible apply m8 (m := 1)); infer_instance; infer_instance; exact rfl; exact rfl; exact rfl; exact rfl; omega) | ((with_reducible apply zW7); infer_instance; exact rfl; (intro w' hw'; first | exact SV.cell (hsh _ _ _ _ (by exact rL_) hw').1 hd0 (g0 _ _ rfl) | exact SV.cell (hsh _ _ _ _ (by exact rL_) hw').1 hd1 (g1 _ _ rfl)); exact rfl) | ((with_reducible apply zR0 (l := [.int .i64 3, .int .i64 10, .int .i64 12])); infer_instance; infer_instance; exact rfl; (intro w' hw' j' v' hj'; exact SV.cell ((hsh _ _ _ _ (by exact rL_) hw').2.2 0 _ _ hd0 hr0).slices hsl hj'); exact rfl; exact rfl) | ((first | ((with_reducible apply t8 (f := 18)); exact rfl) | ((with_reducible apply t9 (f := 18)); exact rfl; kernel_rfl; exact rfl; exact sJ_)); exact eV_; exact (fun w hw => zx8 e13 w ((hsh _ _ _ _ (by exact rL_) hw).2.2 1 _ _ hd1 hr1).items (SV.lit [1, 3, 4, 2, 5] j8 hw (by exact aT_) rfl rfl (by decide)))) | ((first | ((with_reducible apply t8 (f := 19)); exact rfl) | ((with_reducible apply t9 (f := 19)); exact rfl; kernel_rfl; exact rfl; exact sJ_)); exact eV_; exact (fun w hw => yd9 e05 w (((hsh _ _ _ _ (by exact rL_) hw).2.2 0 _ _ hd0 hr0).stk' rfl) (SV.lit ([(_, 3, 3), (_, 2, 2)] : List SD) zl1 hw (by exact aT_) rfl rfl (by decide)) (LL.two' (x := [1, 3, 4]) (y := [2, 5]) j8 hw (by exact aT_) (by exact aT_) (by decide) (by decide)))) | ((first | ((with_reducible apply t8 (f := 19)); exact rfl) | ((with_reducible apply t9 (f := 19)); exact rfl; kernel_rfl; exact rfl; exact sJ_)); exact eV_; exact (fun w hw => yd9 e14 w (((hsh _ _ _ _ (by exact rL_) hw).2.2 1 _ _ hd1 hr1).stk' rfl) (SV.lit ([(_, 3, 3), (_, 2, 2)] : List SD) zl1 hw (by exact aT_) rfl rfl (by decide)) (LL.two' (x := [3, 2, 5]) (y := [1, 4]) j8 hw (by exact aT_) (by exact aT_) (by decide) (by decide)))) | ((first | ((with_reducible apply t8 (f := 20)); exact rfl) | ((with_reducible apply t9 (f := 20)); exact rfl; kernel_rfl; exact rfl; exact sJ_)); exact eV_; exact (fun w hw => zv9 Plt.zs9 Plt.yB3 w (zF9 _ _ _ _ (by exact rL_) hw))) | ((first | ((with_reducible apply t8 (f := 20)); exact rfl) | ((with_reducible apply t9 (f := 20)); exact rfl; kernel_rfl; exact rfl; exact sJ_)); exact eV_; exact (fun w hw => zv9 Plt.zs9 Plt.yB4 w (zF9 _ _ _ _ (by exact rL_) hw))) | ((first | ((with_reducible apply t8 (f := 20)); exact rfl) | ((with_reducible apply t9 (f := 20)); exact rfl; kernel_rfl; exact rfl; exact sJ_)); exact eV_; exact (fun w hw => zv9 Plt.zs9 Plt.yB5 w (zF9 _ _ _ _ (by exact rL_) hw))) | ((first | ((with_reducible apply t8 (f := 20)); exact rfl) | ((with_reducible apply t9 (f := 20)); exact rfl; kernel_rfl; exact rfl; exact sJ_)); exact eV_; exact (fun w hw => zv9 Plt.zs9 Plt.yB6 w (zF9 _ _ _ _ (by exact rL_) hw))) | ((with_reducible first | apply w9 | apply y8 | apply x8 | apply p4); exact rfl; exact rfl) | ((with_reducible first | apply za7); exact rfl; exact rfl) | ((with_reducible apply w7); first | refine u9 (h := ?_) | refine y9 (h := ?_) | refine w8 (h := ?_) | refine q6 (h := ?_) | refine q0 (h := ?_)) | ((with_reducible first | apply l0 | apply l8 | apply p0); exact rfl; exact rfl; exact rfl) | ((with_reducible apply zT6); refine yz9 (h := ?_)) | ((with_reducible apply zd5); exact rfl; exact rfl) | ((with_reducible apply p9); exact rfl; exact fF_; exact rfl; exact rfl) | ((with_reducible apply o7); exact rfl; intro _) | ((with_reducible apply q7); first | refine q8 (h := ?_) | refine q9 (h := ?_)) | ((with_reducible apply g7); first | refine a8 (h := ?_)) | ((with_reducible apply o9); infer_instance; exact rfl; exact rfl) | ((with_reducible apply m9); refine l9 (h := fun _ => ?_)) | ((with_reducible first | apply k9); exact rfl; exact gG_) | ((with_reducible first | apply s9 | apply x9 | apply z8 | apply s7 | apply s8 | apply w4 | apply z9 | apply w5)) | ((with_reducible apply v9); exact rfl; exact fF_) | ((with_reducible first | apply w6 | apply z6 | apply z0 | apply p5 | apply y0 | apply z7)) | ((with_reducible first | apply yx0 | apply yx1)))
  simp only [exN, exQ, sdV, List.cons_append, List.nil_append]
  repeat' (first | ((with_reducible apply m8 (m := 0)); infer_instance; infer_instance; exact rfl; exact rfl; exact rfl; exact rfl; omega) | ((with_reducible apply m8 (m := 1)); infer_instance; infer_instance; exact rfl; exact rfl; exact rfl; exact rfl; omega) | ((first | ((with_reducible apply f5 (f := 16)); exact rfl) | ((with_reducible apply d6 (f := 16)); exact rfl; exact rfl; exact sJ_)); exact eV_; exact (fun w hw => zs2 (Plt.zD3 Plt.zP7) w (zF9 (t := 14) _ _ _ _ (by unfold exN; exact rL_) hw)); rintro v NS_ ⟨as_, cs_, sds, rfl, ⟨hshs, hsl2⟩, oS⟩ <;> (try simp only [List.cons_append, List.nil_append])) | ((with_reducible first | apply w9 | apply y8 | apply x8 | apply p4); exact rfl; exact rfl) | ((with_reducible first | apply za7); exact rfl; exact rfl) | ((with_reducible apply w7); first | refine u9 (h := ?_) | refine y9 (h := ?_) | refine w8 (h := ?_) | refine q6 (h := ?_) | refine q0 (h := ?_)) | ((with_reducible first | apply l0 | apply l8 | apply p0); exact rfl; exact rfl; exact rfl) | ((with_reducible apply n8); exact rfl; exact tT_; exact rfl; exact rfl) | ((with_reducible apply q7); first | refine q8 (h := ?_) | refine q9 (h := ?_)) | ((with_reducible apply o9); infer_instance; exact rfl; exact rfl) | ((with_reducible first | apply k9); exact rfl; exact gG_) | ((with_reducible first | apply s9 | apply x9 | apply z8 | apply s7 | apply s8 | apply w4 | apply z9 | apply w5)) | ((with_reducible first | apply w6 | apply z6 | apply z0 | apply p5 | apply y0 | apply z7)))
  refine zE2 (fun w' hw' => RunsV.at (hshs _ _ _ _ (by exact rL_) hw') hs0) ?_
  rintro ⟨br, offr, x1, k1, x2, k2, x3, n3, k3, x4, n4, k4, x5, k5, x6, k6, x7, n7, k7, rfl, hd0, hn3, g0⟩
  refine zE2 (fun w' hw' => RunsV.at (hshs _ _ _ _ (by exact rL_) hw') hs1) ?_
  rintro ⟨br', offr', y1, l1, y2, l2, y3, m3, l3, y4, m4, l4, y5, l5, y6, l6, y7, m7, l7, ebr, hd1, hm3, g1⟩
  cases ebr
  have hsi : s1.items.length = 0 := by rw [f13]; rfl
  repeat' (first | ((with_reducible apply n8); exact rfl; exact dT_; exact rfl; exact rfl) | ((with_reducible apply k9); exact rfl; exact dT_) | ((with_reducible apply m8 (m := 0)); infer_instance; infer_instance; exact rfl; exact rfl; exact rfl; exact rfl; omega) | ((with_reducible apply m8 (m := 1)); infer_instance; infer_instance; exact rfl; exact rfl; exact rfl; exact rfl; omega) | ((with_reducible apply zW7); infer_instance; exact rfl; (intro w' hw'; first | exact SV.cell (hshs _ _ _ _ (by exact rL_) hw').1 hd0 (g0 _ _ rfl) | exact SV.cell (hshs _ _ _ _ (by exact rL_) hw').1 hd1 (g1 _ _ rfl)); exact rfl) | ((first | ((with_reducible apply t8 (f := 20)); exact rfl) | ((with_reducible apply t9 (f := 20)); exact rfl; kernel_rfl; exact rfl; exact sJ_)); exact eV_; exact (fun w hw => zv9 Plt.zP7 Plt.yI3 w (zF9 (t := 14) _ _ _ _ (by unfold exN; exact rL_) hw))) | ((with_reducible first | apply w9 | apply y8 | apply x8 | apply p4); exact rfl; exact rfl) | ((with_reducible first | apply za7); exact rfl; exact rfl) | ((with_reducible apply w7); first | refine u9 (h := ?_) | refine y9 (h := ?_) | refine w8 (h := ?_) | refine q6 (h := ?_) | refine q0 (h := ?_)) | ((with_reducible first | apply l0 | apply l8 | apply p0); exact rfl; exact rfl; exact rfl) | ((with_reducible apply o9); infer_instance; exact rfl; exact rfl) | ((with_reducible first | apply s9 | apply x9 | apply z8 | apply s7 | apply s8 | apply w4 | apply z9 | apply w5)) | ((with_reducible first | apply w6 | apply z6 | apply z0 | apply p5 | apply y0 | apply z7)))
  apply p8; apply zb0 Try.results6; exact rV_; intro w' hw
  refine ⟨by simp, hw.below (show AO _ from by exact aO_)⟩
end Go.Proofs.Ytdahckhlfldkkaa
