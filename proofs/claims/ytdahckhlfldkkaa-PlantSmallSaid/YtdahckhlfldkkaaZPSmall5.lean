/- A part of the proofs of this seat: a small logic of walks, plain laws, and what some of the program's functions compute, shown by walks through their code. Conditions: the hypotheses that each theorem names. -/
import Derived.Test.YtdahckhlfldkkaaZPSmall3
import Derived.Test.YtdahckhlfldkkaaZPSmall4
set_option linter.unusedSimpArgs false
set_option linter.unusedVariables false
set_option linter.unusedSectionVars false
namespace Go.Proofs.Ytdahckhlfldkkaa
open Go Go.Sx Go.RowKit
attribute [local irreducible] WL WC WQ WR WB WF QB St Exit.then Exit.inBlock Exit.noGoto bodyPost roundPost zc1 YR RG BM Calls B zc7 ze3
structure MD where
  id : Int
  sweeps : Int
  rate : Int
  caps : SD
  shifts : SD
structure PD where
  id : Int
  mach : Int
  rel : Int
  src : SD
  table : SD
  unread : SD
def zV3 (d : MD) : List Value := [.int .i64 d.id, .int .i64 d.sweeps, .int .i64 d.rate, sdV d.caps, sdV d.shifts]
theorem zw4 : ∀ x, (zV3 x).length = 5 := fun _ => rfl
theorem yp8 : ∀ x, (zV3 x).all (·.oneCell') = true := fun _ => rfl
def zV4 (d : PD) : List Value := [.int .i64 d.id, .int .i64 d.mach, .int .i64 d.rel, sdV d.src, sdV d.table, sdV d.unread]
theorem zw5 : ∀ x, (zV4 x).length = 6 := fun _ => rfl
theorem yp9 : ∀ x, (zV4 x).all (·.oneCell') = true := fun _ => rfl
def zu8 (x : Plt.Item) : List Value := [.int .i64 x.id, .int .i64 x.stop, .int .i64 x.batch]
theorem zq4 : ∀ x, (zu8 x).length = 3 := fun _ => rfl
theorem yd1 : ∀ x, (zu8 x).all (·.oneCell') = true := fun _ => rfl
def zP5 (s : Int × Int) : List Value := [.int .i64 s.1, .int .i64 s.2]
theorem zn3 : ∀ x, (zP5 x).length = 2 := fun _ => rfl
theorem yj0 : ∀ x, (zP5 x).all (·.oneCell') = true := fun _ => rfl
def zP4 (e : Plt.Row) : List Value := [.int .i64 e.stop, .int .i64 e.st]
theorem zn2 : ∀ x, (zP4 x).length = 2 := fun _ => rfl
theorem yi9 : ∀ x, (zP4 x).all (·.oneCell') = true := fun _ => rfl
structure MachV (w : World) (d : MD) (m : Plt.zb6) : Prop where
  id : d.id = m.id
  sweeps : d.sweeps = m.sweeps
  rate : d.rate = m.rate
  caps : SV w 1 encI (sdV d.caps) m.caps
  shifts : SV w 2 zs8 (sdV d.shifts) m.shifts
theorem MachV.keep {w0 w : World} {L : List Ent} {d : MD} {m : Plt.zb6} (h : MachV w0 d m) (hw : Rep w0 w L) (ho : AO L) : MachV w d m := ⟨h.id, h.sweeps, h.rate, h.caps.keep hw ho, h.shifts.keep hw ho⟩
structure PassV (w : World) (d : PD) (y : Plt.za3) : Prop where
  id : d.id = y.id
  mach : d.mach = y.mach
  rel : d.rel = y.rel
  src : SV w 2 zP5 (sdV d.src) y.src
  table : SV w 2 zP4 (sdV d.table) y.table
  unread : SV w 1 encI (sdV d.unread) y.unread
theorem PassV.keep {w0 w : World} {L : List Ent} {d : PD} {y : Plt.za3} (h : PassV w0 d y) (hw : Rep w0 w L) (ho : AO L) : PassV w d y := ⟨h.id, h.mach, h.rel, h.src.keep hw ho, h.table.keep hw ho, h.unread.keep hw ho⟩
structure PlD where
  m : SD
  i : SD
  p : SD
  ds : List MD
  ys : List PD
structure PlV (w : World) (q : PlD) (p : Plt.g8) : Prop where
  ms : SV w 5 zV3 (sdV q.m) q.ds
  items : SV w 3 zu8 (sdV q.i) p.items
  ps : SV w 6 zV4 (sdV q.p) q.ys
  lm : q.ds.length = p.ms.length
  lp : q.ys.length = p.passes.length
  machs : ∀ (i : Nat) (d : MD) (m : Plt.zb6), q.ds[i]? = some d → p.ms[i]? = some m → MachV w d m
  pass : ∀ (i : Nat) (d : PD) (y : Plt.za3), q.ys[i]? = some d → p.passes[i]? = some y → PassV w d y
theorem PlV.keep {w0 w : World} {L : List Ent} {q : PlD} {p : Plt.g8} (h : PlV w0 q p) (hw : Rep w0 w L) (ho : AO L) : PlV w q p :=
  ⟨h.ms.keep hw ho, h.items.keep hw ho, h.ps.keep hw ho, h.lm, h.lp, fun i d m h1 h2 => (h.machs i d m h1 h2).keep hw ho, fun i d y h1 h2 => (h.pass i d y h1 h2).keep hw ho⟩
@[reducible] def plV (q : PlD) : Value := .agg #[sdV q.m, sdV q.i, sdV q.p]
theorem zq8 (x : Int) (w : World) : Calls Try.prog 36 #[.int .i64 x] w fun e w' => e = .returned (.bool (decide (1 ≤ x ∧ x ≤ 999999))) ∧ Below w.heap.size w w' := by
  by_cases h1 : 1 ≤ x
  · by_cases h2 : x ≤ 999999
    · rw [decide_eq_true ⟨h1, h2⟩]
      refine zd2 Try.func36 rfl Try.ntmps36 rfl (Rep.start w) ?_
      repeat' (first | (apply n8; exact rfl; exact dT_; exact rfl; exact rfl) | (apply k9; exact rfl; exact dT_) | ((first | apply w9 | apply y8); exact rfl; exact rfl) | ((first | apply zc8 | apply d9); exact rfl; exact rfl; exact rfl) | ((first | apply s9 | apply x9 | apply z8 | apply s7 | apply s8 | apply w4 | apply z9 | apply w5)) | ((first | apply w6 | apply z6 | apply z0 | apply p5 | apply y0 | apply z7)))
      apply p8; apply zb0 Try.results36; exact rV_; intro w' hw
      refine ⟨?_, hw.below (by simp)⟩
      simp [h2]
    · rw [decide_eq_false (fun h => h2 h.2)]
      refine zd2 Try.func36 rfl Try.ntmps36 rfl (Rep.start w) ?_
      repeat' (first | (apply n8; exact rfl; exact dT_; exact rfl; exact rfl) | (apply k9; exact rfl; exact dT_) | ((first | apply w9 | apply y8); exact rfl; exact rfl) | ((first | apply zc8 | apply d9); exact rfl; exact rfl; exact rfl) | ((first | apply s9 | apply x9 | apply z8 | apply s7 | apply s8 | apply w4 | apply z9 | apply w5)) | ((first | apply w6 | apply z6 | apply z0 | apply p5 | apply y0 | apply z7)))
      apply p8; apply zb0 Try.results36; exact rV_; intro w' hw
      refine ⟨?_, hw.below (by simp)⟩
      simp [h2]
  · rw [decide_eq_false (fun h => h1 h.1)]
    refine zd2 Try.func36 rfl Try.ntmps36 rfl (Rep.start w) ?_
    repeat' (first | (apply p9; exact rfl; exact dF_; exact rfl; exact rfl) | (apply za5; exact rfl; exact dF_; exact rfl) | ((first | apply w9 | apply y8); exact rfl; exact rfl) | ((first | apply zc8 | apply d9); exact rfl; exact rfl; exact rfl) | ((first | apply s9 | apply x9 | apply z8 | apply s7 | apply s8 | apply w4 | apply z9 | apply w5)) | ((first | apply w6 | apply z6 | apply z0 | apply p5 | apply y0 | apply z7)))
    apply p8; apply zb0 Try.results36; exact rV_; intro w' hw
    exact ⟨rfl, hw.below (by simp)⟩
theorem yy7 {cv fv : Value} {caps : List Int} {s k : Int} {l : List Srt.Fd} (hk : (Srt.zd0 caps s l).2 = k) (w : World) (h : SV w 1 encI cv caps) (hl : SV w 2 zo0 fv l) :
    Calls Try.prog 50 #[cv, .int .i64 s, fv] w fun e w' => ∃ v N, e = .returned v ∧ (∃ x1 x2 x3 x4 x5, v = .tuple #[.agg #[sdV x1, sdV x2, sdV x3, sdV x4, sdV x5], .int .i64 k] ∧ ∀ x ∈ N, x.own = true) ∧ Rep w w' N ∧ ∀ x ∈ N, x.own = true :=
  (zX4 w h hl).mono fun e w' ⟨v, N, h1, h2, h3, h4⟩ => by
    obtain ⟨pv, rfl, ⟨a1, c1, a2, c2, a3, c3, a4, c4, a5, c5, ss, N1, M1, N2, N3, N4, N5, rfl, -⟩, _⟩ := h2
    exact ⟨_, N, h1, ⟨(a1, _, c1), (a2, _, c2), (a3, _, c3), (a4, _, c4), (a5, _, c5), by rw [hk], h4⟩, h3, h4⟩
theorem yf2 {d : MD} {m : Plt.zb6} (w : World) (h : MachV w d m) : Calls Try.prog 35 #[.agg #[.int .i64 d.id, .int .i64 d.sweeps, .int .i64 d.rate, sdV d.caps, sdV d.shifts]] w fun e w' => e = .returned (.bool (decide (Plt.zi1 m))) ∧ Below w.heap.size w w' := by
  obtain ⟨id, sw, ra, ca, sh⟩ := d
  obtain ⟨e1, e2, e3, hc, hs⟩ := h
  dsimp only at e1 e2 e3 hc hs ⊢
  subst e1 e2 e3
  have hR : ∀ b : Bool, (b = true ↔ ((1 ≤ m.id ∧ m.id ≤ 999999) ∧ (1 ≤ m.rate ∧ m.rate ≤ 1000) ∧ (Srt.zd0 m.caps m.sweeps []).2 = 0 ∧ (Plt.zb7 [] m.shifts).2 = 0)) → decide (Plt.zi1 m) = b := fun b hb => by
    cases b
    · exact decide_eq_false (fun h => by have := hb.2 h; cases this)
    · exact decide_eq_true (hb.1 rfl)
  obtain ⟨k, hk⟩ : ∃ k, (Srt.zd0 m.caps m.sweeps []).2 = k := ⟨_, rfl⟩
  obtain ⟨⟨i, q⟩, hq⟩ : ∃ q, Plt.zb7 [] m.shifts = q := ⟨_, rfl⟩
  by_cases hid : (1 ≤ m.id ∧ m.id ≤ 999999) ∧ 1 ≤ m.rate ∧ m.rate ≤ 1000
  case neg =>
    rw [hR false (by constructor; (intro h; cases h); exact fun h => absurd ⟨h.1, h.2.1⟩ hid)]
    refine zd2 Try.func35 rfl Try.ntmps35 rfl (Rep.start w) ?_
    repeat' (first | ((first | ((apply t8 (f := 36)); exact rfl) | ((apply t9 (f := 36)); exact rfl; kernel_rfl; exact rfl; exact sJ_)); exact eV_; exact (fun w hw => zq8 m.id w)) | ((first | apply w9 | apply y8 | apply x8 | apply p4); exact rfl; exact rfl) | (apply w7; first | refine u9 (h := ?_) | refine y9 (h := ?_) | refine w8 (h := ?_) | refine q6 (h := ?_) | refine q0 (h := ?_)) | ((first | apply p3 | apply o8 | apply l0 | apply l8 | apply p0); exact rfl; exact rfl; exact rfl) | (apply n8; exact rfl; exact tT_; exact rfl; exact rfl) | (apply p9; exact rfl; exact fF_; exact rfl; exact rfl) | (apply zc5; exact rfl; exact rfl; exact rfl; intro _) | ((first | apply k9); exact rfl; exact gG_) | (apply za5; exact rfl; exact gG_; exact rfl) | ((first | apply s9 | apply x9 | apply z8 | apply s7 | apply s8 | apply w4 | apply z9 | apply w5)) | (apply v8; exact rfl; exact tT_) | ((first | apply w6 | apply z6 | apply z0 | apply p5 | apply y0 | apply z7)) | (apply zd3; exact rfl; intro hcond; rotate_left; intro hcond; rotate_left))
    all_goals first
      | (exfalso; omega)
      | (apply p8; apply zb0 Try.results35; exact rV_; intro w' hw; exact ⟨rfl, hw.below (by simp)⟩)
  by_cases hk0 : k = 0
  case neg =>
    rw [hR false (by constructor; (intro h; cases h); exact fun h => absurd (hk.symm.trans h.2.2.1) hk0)]
    refine zd2 Try.func35 rfl Try.ntmps35 rfl (Rep.start w) ?_
    repeat' (first | (apply v8; exact rfl; exact dT_) | (apply v9; exact rfl; exact dF_) | (apply p9; exact rfl; exact dF_; exact rfl; exact rfl) | (apply k9; exact rfl; exact dF_) | ((first | ((apply t8 (f := 36)); exact rfl) | ((apply t9 (f := 36)); exact rfl; kernel_rfl; exact rfl; exact sJ_)); exact eV_; exact (fun w hw => zq8 m.id w)) | ((first | ((apply f5 (f := 50)); exact rfl) | ((apply d6 (f := 50)); exact rfl; exact rfl; exact sJ_)); exact eV_; exact (fun w hw => yy7 hk w (hc.keep hw (by exact aO_)) (SV.nil : SV w 2 zo0 (.slice none 0 0) [])); rintro v N ⟨x1, x2, x3, x4, x5, rfl, oN⟩ <;> (try simp only [List.cons_append, List.nil_append])) | ((first | apply w9 | apply y8 | apply x8 | apply p4); exact rfl; exact rfl) | (apply w7; first | refine u9 (h := ?_) | refine y9 (h := ?_) | refine w8 (h := ?_) | refine q6 (h := ?_) | refine q0 (h := ?_)) | ((first | apply p3 | apply o8 | apply l0 | apply l8 | apply p0); exact rfl; exact rfl; exact rfl) | (apply o7; exact rfl; intro _) | (apply zc5; exact rfl; exact rfl; exact rfl; intro _) | (apply q7; first | refine q8 (h := ?_) | refine q9 (h := ?_)) | ((first | apply s9 | apply x9 | apply z8 | apply s7 | apply s8 | apply w4 | apply z9 | apply w5)) | ((first | apply w6 | apply z6 | apply z0 | apply p5 | apply y0 | apply z7)))
    apply p8; apply zb0 Try.results35; exact rV_; intro w' hw
    exact ⟨rfl, hw.below (show AO _ from by exact aO_)⟩
  subst hk0
  rw [hR (decide (q = 0)) (by
    rw [decide_eq_true_eq]
    constructor
    · exact fun h => ⟨hid.1, hid.2, hk, by rw [hq]; exact h⟩
    · exact fun h => by have := h.2.2.2; rw [hq] at this; exact this)]
  refine zd2 Try.func35 rfl Try.ntmps35 rfl (Rep.start w) ?_
  repeat' (first | (apply v9; exact rfl; exact dF_) | (apply p9; exact rfl; exact dF_; exact rfl; exact rfl) | (apply k9; exact rfl; exact dF_) | ((first | ((apply t8 (f := 36)); exact rfl) | ((apply t9 (f := 36)); exact rfl; kernel_rfl; exact rfl; exact sJ_)); exact eV_; exact (fun w hw => zq8 m.id w)) | ((first | ((apply f5 (f := 50)); exact rfl) | ((apply d6 (f := 50)); exact rfl; exact rfl; exact sJ_)); exact eV_; exact (fun w hw => yy7 hk w (hc.keep hw (by exact aO_)) (SV.nil : SV w 2 zo0 (.slice none 0 0) [])); rintro v N ⟨x1, x2, x3, x4, x5, rfl, oN⟩ <;> (try simp only [List.cons_append, List.nil_append])) | ((first | ((apply t8 (f := 51)); exact rfl) | ((apply t9 (f := 51)); exact rfl; kernel_rfl; exact rfl; exact sJ_)); exact eV_; exact (fun w hw => yb0 hq w (hs.keep hw (by exact aO_)))) | ((first | apply w9 | apply y8 | apply x8 | apply p4); exact rfl; exact rfl) | (apply w7; first | refine u9 (h := ?_) | refine y9 (h := ?_) | refine w8 (h := ?_) | refine q6 (h := ?_) | refine q0 (h := ?_)) | ((first | apply p3 | apply o8 | apply l0 | apply l8 | apply p0); exact rfl; exact rfl; exact rfl) | (apply o7; exact rfl; intro _) | (apply zc5; exact rfl; exact rfl; exact rfl; intro _) | (apply q7; first | refine q8 (h := ?_) | refine q9 (h := ?_)) | ((first | apply s9 | apply x9 | apply z8 | apply s7 | apply s8 | apply w4 | apply z9 | apply w5)) | ((first | apply w6 | apply z6 | apply z0 | apply p5 | apply y0 | apply z7)))
  apply p8; apply zb0 Try.results35; exact rV_; intro w' hw
  exact ⟨rfl, hw.below (show AO _ from by exact aO_)⟩
end Go.Proofs.Ytdahckhlfldkkaa
namespace Go.Proofs.Ytdahckhlfldkkaa
open Go Go.Sx Go.RowKit
attribute [local irreducible] WL WC WQ WR WB WF QB St Exit.then Exit.inBlock Exit.noGoto bodyPost roundPost zc1 YR RG BM Calls B zc7 ze3
theorem yI1 {p q : Prop} [Decidable p] {b : Bool} (h : p ↔ q) (hb : b = true ↔ q) : decide p = b := by
  cases b
  · exact decide_eq_false (fun hp => by have := hb.2 (h.1 hp); cases this)
  · exact decide_eq_true (h.2 (hb.1 rfl))
theorem zM9 {ps : List (Int × Int)} {n : Int} : Plt.zi9 ps (0, n) ↔ 1 ≤ n ∧ n ≤ 100 := by simp [Plt.zi9]
theorem yl5 {ps : List (Int × Int)} {s1 s2 : Int} (h0 : s1 ≠ 0) (ho : asF s1 ps = none) : ¬ Plt.zi9 ps (s1, s2) := by simp [Plt.zi9, h0, ho]
theorem zS4 {ps : List (Int × Int)} {s1 s2 n : Int} (h0 : s1 ≠ 0) (ho : asF s1 ps = some n) : Plt.zi9 ps (s1, s2) ↔ 0 ≤ s2 ∧ s2 < n := by simp [Plt.zi9, h0, ho]
theorem yb2 {bc bm bp bt : Nat} {ps : List (Int × Int)} {s1 s2 : Int} (w : World) (h1 : w.heap[bc]? = some (Ce [.map (some bm), .map (some bp), .map (some bt)] 127)) (h2 : w.heap[bp]? = some (MO (MM kI kI ps))) (hn : (ps.map Prod.fst).Nodup) :
    Calls Try.prog 52 #[ptr bc, .agg #[.int .i64 s1, .int .i64 s2]] w fun e w' => e = .returned (.bool (decide (Plt.zi9 ps (s1, s2)))) ∧ Below w.heap.size w w' := by
  by_cases h0 : s1 = 0
  · subst h0
    by_cases hb : 1 ≤ s2 ∧ s2 ≤ 100
    · rw [decide_eq_true (zM9.2 hb)]
      refine za8 Try.func52 rfl Try.ntmps52 rfl (Rep.start w) ?_
      repeat' (first | (apply v8; exact rfl; exact dT_) | (apply n8; exact rfl; exact dT_; exact rfl; exact rfl) | (apply k9; exact rfl; exact dT_) | ((first | apply w9 | apply y8 | apply x8 | apply n0); exact rfl; exact rfl) | (apply w7; first | refine u9 (h := ?_) | refine y9 (h := ?_) | refine w8 (h := ?_) | refine q6 (h := ?_) | refine q0 (h := ?_)) | ((first | apply p3 | apply zc8 | apply d9 | apply l0 | apply p0); exact rfl; exact rfl; exact rfl) | (apply zc5; exact rfl; exact rfl; exact rfl; intro _) | ((first | apply s9 | apply x9 | apply z8 | apply s7 | apply s8 | apply w4 | apply z9 | apply w5)) | ((first | apply w6 | apply z6 | apply z0 | apply p5 | apply y0 | apply z7)))
      apply p8; apply zb0 Try.results52; exact rV_; intro w' hw
      refine ⟨?_, hw.below (by simp)⟩
      simp [hb.2]
    · rw [decide_eq_false (fun h => hb (zM9.1 h))]
      by_cases h3 : 1 ≤ s2
      · refine za8 Try.func52 rfl Try.ntmps52 rfl (Rep.start w) ?_
        repeat' (first | (apply v8; exact rfl; exact dT_) | (apply n8; exact rfl; exact dT_; exact rfl; exact rfl) | (apply k9; exact rfl; exact dT_) | ((first | apply w9 | apply y8 | apply x8 | apply n0); exact rfl; exact rfl) | (apply w7; first | refine u9 (h := ?_) | refine y9 (h := ?_) | refine w8 (h := ?_) | refine q6 (h := ?_) | refine q0 (h := ?_)) | ((first | apply p3 | apply zc8 | apply d9 | apply l0 | apply p0); exact rfl; exact rfl; exact rfl) | (apply zc5; exact rfl; exact rfl; exact rfl; intro _) | ((first | apply s9 | apply x9 | apply z8 | apply s7 | apply s8 | apply w4 | apply z9 | apply w5)) | ((first | apply w6 | apply z6 | apply z0 | apply p5 | apply y0 | apply z7)))
        apply p8; apply zb0 Try.results52; exact rV_; intro w' hw
        refine ⟨?_, hw.below (by simp)⟩
        have : ¬ s2 ≤ 100 := fun h => hb ⟨h3, h⟩
        simp [this]
      · refine za8 Try.func52 rfl Try.ntmps52 rfl (Rep.start w) ?_
        repeat' (first | (apply v8; exact rfl; exact dT_) | (apply p9; exact rfl; exact dF_; exact rfl; exact rfl) | (apply za5; exact rfl; exact dF_; exact rfl) | ((first | apply w9 | apply y8 | apply x8 | apply n0); exact rfl; exact rfl) | (apply w7; first | refine u9 (h := ?_) | refine y9 (h := ?_) | refine w8 (h := ?_) | refine q6 (h := ?_) | refine q0 (h := ?_)) | ((first | apply p3 | apply zc8 | apply d9 | apply l0 | apply p0); exact rfl; exact rfl; exact rfl) | (apply zc5; exact rfl; exact rfl; exact rfl; intro _) | ((first | apply s9 | apply x9 | apply z8 | apply s7 | apply s8 | apply w4 | apply z9 | apply w5)) | ((first | apply w6 | apply z6 | apply z0 | apply p5 | apply y0 | apply z7)))
        apply p8; apply zb0 Try.results52; exact rV_; intro w' hw
        exact ⟨rfl, hw.below (by simp)⟩
  · cases ho : asF s1 ps with
    | none =>
      rw [decide_eq_false (yl5 h0 ho)]
      refine za8 Try.func52 rfl Try.ntmps52 rfl (Rep.start w) ?_
      repeat' (first | (apply v9; exact rfl; exact dF_) | ((apply zk2 (κ := kI) (ν := kI) (k := s1)); infer_instance; infer_instance; infer_instance; exact rfl; exact rfl; exact sJ_; exact rfl; exact kN_; assumption; exact rfl) | ((first | apply w9 | apply y8 | apply x8 | apply n0); exact rfl; exact rfl) | (apply w7; first | refine u9 (h := ?_) | refine y9 (h := ?_) | refine w8 (h := ?_) | refine q6 (h := ?_) | refine q0 (h := ?_)) | ((first | apply p3 | apply zc8 | apply d9 | apply l0 | apply p0); exact rfl; exact rfl; exact rfl) | (apply p9; exact rfl; exact fF_; exact rfl; exact rfl) | (apply zc5; exact rfl; exact rfl; exact rfl; intro _) | (apply za5; exact rfl; exact gG_; exact rfl) | ((first | apply s9 | apply x9 | apply z8 | apply s7 | apply s8 | apply w4 | apply z9 | apply w5)) | ((first | apply w6 | apply z6 | apply z0 | apply p5 | apply y0 | apply z7)) | ((apply p6 (id := 3) []); kernel_rfl; kernel_rfl) | (apply za6; try simp only [za9, List.cons_append, List.nil_append]) | ((first | apply i9 | apply n9 | apply m5); exact rfl; exact rfl) | (apply m0; first | refine k8 (h := ?_) | refine p7 (h := ?_) | refine m6 (h := ?_) | refine d8 (h := ?_) | refine d7 (h := ?_)) | ((first | apply ze6 | apply zm1 | apply zi4 | apply ze2); exact rfl; exact rfl; exact rfl) | (apply zb1; refine zb5 (h := ?_)))
      apply p8; apply zb0 Try.results52; exact rV_; intro w' hw
      exact ⟨rfl, hw.below (by simp)⟩
    | some n =>
      by_cases h3 : 0 ≤ s2
      · rw [yI1 (zS4 h0 ho) (b := decide (s2 < n)) (by rw [decide_eq_true_eq]; exact ⟨fun h => ⟨h3, h⟩, fun h => h.2⟩)]
        refine za8 Try.func52 rfl Try.ntmps52 rfl (Rep.start w) ?_
        repeat' (first | (apply v9; exact rfl; exact dF_) | (apply n8; exact rfl; exact dT_; exact rfl; exact rfl) | (apply k9; exact rfl; exact dT_) | ((apply zi5 (κ := kI) (ν := kI) (k := s1)); infer_instance; infer_instance; exact rfl; exact rfl; exact sJ_; exact rfl; exact kN_; assumption; assumption; exact rfl) | ((first | apply w9 | apply y8 | apply x8 | apply n0); exact rfl; exact rfl) | (apply w7; first | refine u9 (h := ?_) | refine y9 (h := ?_) | refine w8 (h := ?_) | refine q6 (h := ?_) | refine q0 (h := ?_)) | ((first | apply p3 | apply zc8 | apply d9 | apply l0 | apply p0); exact rfl; exact rfl; exact rfl) | (apply n8; exact rfl; exact tT_; exact rfl; exact rfl) | (apply zc5; exact rfl; exact rfl; exact rfl; intro _) | ((first | apply k9); exact rfl; exact gG_) | ((first | apply s9 | apply x9 | apply z8 | apply s7 | apply s8 | apply w4 | apply z9 | apply w5)) | ((first | apply w6 | apply z6 | apply z0 | apply p5 | apply y0 | apply z7)) | ((apply p6 (id := 3) []); kernel_rfl; kernel_rfl) | (apply za6; try simp only [za9, List.cons_append, List.nil_append]) | ((first | apply i9 | apply n9 | apply m5); exact rfl; exact rfl) | (apply m0; first | refine k8 (h := ?_) | refine p7 (h := ?_) | refine m6 (h := ?_) | refine d8 (h := ?_) | refine d7 (h := ?_)) | ((first | apply ze6 | apply zm1 | apply zi4 | apply ze2); exact rfl; exact rfl; exact rfl) | (apply zb1; refine zb5 (h := ?_)))
        apply p8; apply zb0 Try.results52; exact rV_; intro w' hw
        exact ⟨rfl, hw.below (by simp)⟩
      · rw [decide_eq_false (fun h => h3 ((zS4 h0 ho).1 h).1)]
        refine za8 Try.func52 rfl Try.ntmps52 rfl (Rep.start w) ?_
        repeat' (first | (apply v9; exact rfl; exact dF_) | (apply p9; exact rfl; exact dF_; exact rfl; exact rfl) | (apply za5; exact rfl; exact dF_; exact rfl) | ((apply zi5 (κ := kI) (ν := kI) (k := s1)); infer_instance; infer_instance; exact rfl; exact rfl; exact sJ_; exact rfl; exact kN_; assumption; assumption; exact rfl) | ((first | apply w9 | apply y8 | apply x8 | apply n0); exact rfl; exact rfl) | (apply w7; first | refine u9 (h := ?_) | refine y9 (h := ?_) | refine w8 (h := ?_) | refine q6 (h := ?_) | refine q0 (h := ?_)) | ((first | apply p3 | apply zc8 | apply d9 | apply l0 | apply p0); exact rfl; exact rfl; exact rfl) | (apply n8; exact rfl; exact tT_; exact rfl; exact rfl) | (apply zc5; exact rfl; exact rfl; exact rfl; intro _) | ((first | apply k9); exact rfl; exact gG_) | ((first | apply s9 | apply x9 | apply z8 | apply s7 | apply s8 | apply w4 | apply z9 | apply w5)) | ((first | apply w6 | apply z6 | apply z0 | apply p5 | apply y0 | apply z7)) | ((apply p6 (id := 3) []); kernel_rfl; kernel_rfl) | (apply za6; try simp only [za9, List.cons_append, List.nil_append]) | ((first | apply i9 | apply n9 | apply m5); exact rfl; exact rfl) | (apply m0; first | refine k8 (h := ?_) | refine p7 (h := ?_) | refine m6 (h := ?_) | refine d8 (h := ?_) | refine d7 (h := ?_)) | ((first | apply ze6 | apply zm1 | apply zi4 | apply ze2); exact rfl; exact rfl; exact rfl) | (apply zb1; refine zb5 (h := ?_)))
        apply p8; apply zb0 Try.results52; exact rV_; intro w' hw
        exact ⟨rfl, hw.below (by simp)⟩
def TS (tk : List (Int × Int)) : List ((Int × Int) × Bool) := tk.map fun s => (s, true)
theorem zO4 {tk : List (Int × Int)} (h : tk.Nodup) : ((TS tk).map Prod.fst).Nodup := by
  have : (TS tk).map Prod.fst = tk := by rw [TS, List.map_map]; exact (List.map_congr_left fun _ _ => rfl).trans (List.map_id _)
  rw [this]; exact h
theorem yK2 {tk : List (Int × Int)} {s : Int × Int} (h : s ∈ tk) (hn : tk.Nodup) : asF s (TS tk) = some true := by
  obtain ⟨j, hj⟩ := List.getElem?_of_mem h
  exact zA7 (zO4 hn) (j := j) (by rw [TS, List.getElem?_map, hj]; rfl)
theorem yt6 {tk : List (Int × Int)} {s : Int × Int} (h : s ∉ tk) : asF s (TS tk) = none := by
  rw [zj1]
  intro p hp
  obtain ⟨x, hx, rfl⟩ := List.mem_map.1 hp
  intro e
  exact h (e ▸ hx)
theorem yH7 {tk : List (Int × Int)} {s : Int × Int} (h : s ∉ tk) : ze8 s true (TS tk) = TS (tk ++ [s]) := by
  rw [zl4 (yt6 h)]; simp [TS]
theorem zl2 {α : Type} {l : List α} {x : α} (h : l.Nodup) (hx : x ∉ l) : (l ++ [x]).Nodup := by
  rw [List.nodup_append]
  refine ⟨h, by simp, fun a ha b hb e => ?_⟩
  simp at hb; subst hb; subst e; exact hx ha
theorem zL5 (ps : List (Int × Int)) : ∀ (l tk : List (Int × Int)) (s : Int × Int), Plt.zg1 ps tk (l ++ [s]) ↔ Plt.zg1 ps tk l ∧ (Plt.zi9 ps s ∧ s ∉ tk ++ l)
  | [], tk, s => by simp [Plt.zg1]
  | a :: l, tk, s => by
    rw [List.cons_append, Plt.zg1, Plt.zg1, zL5 ps l]
    rw [List.append_assoc, List.singleton_append]
    constructor
    · rintro ⟨h1, h2, h3⟩; exact ⟨⟨h1, h2⟩, h3⟩
    · rintro ⟨⟨h1, h2⟩, h3⟩; exact ⟨h1, h2, h3⟩
theorem ys9 {ps tk l : List (Int × Int)} (h : Plt.zg1 ps tk l) (i : Nat) : Plt.zg1 ps tk (l.take i) := by
  have : ∀ (l tk : List (Int × Int)) (i : Nat), Plt.zg1 ps tk l → Plt.zg1 ps tk (l.take i) := by
    intro l
    induction l with
    | nil => intro tk i _; simp [Plt.zg1]
    | cons a l ih =>
      intro tk i h
      cases i with
      | zero => simp [Plt.zg1]
      | succ i => exact ⟨h.1, ih _ _ h.2⟩
  exact this l tk i h
theorem zK9 (n : Int) : ∀ (l : List Plt.Row) (met : List Int) (e : Plt.Row), Plt.zf6 n met (l ++ [e]) ↔ Plt.zf6 n met l ∧ (e.stop ∉ met ++ l.map Plt.Row.stop ∧ 0 ≤ e.st ∧ e.st < n)
  | [], met, e => by simp [Plt.zf6]
  | a :: l, met, e => by
    rw [List.cons_append, Plt.zf6, Plt.zf6, zK9 n l, List.map_cons, List.append_assoc, List.singleton_append]
    constructor
    · rintro ⟨h1, h2, h3⟩; exact ⟨⟨h1, h2⟩, h3⟩
    · rintro ⟨⟨h1, h2⟩, h3⟩; exact ⟨h1, h2, h3⟩
theorem zX2 {n : Int} : ∀ {l : List Plt.Row} {met : List Int} (i : Nat), Plt.zf6 n met l → Plt.zf6 n met (l.take i)
  | [], _, i, _ => by simp [Plt.zf6]
  | a :: l, met, 0, _ => by simp [Plt.zf6]
  | a :: l, met, i + 1, h => ⟨h.1, zX2 i h.2⟩
def chk (bc bm bp bt : Nat) (msl ps tk : List (Int × Int)) : List Ent := [⟨bc, Ce [.map (some bm), .map (some bp), .map (some bt)] 127, true⟩, ⟨bm, MO (MM kI kI msl), true⟩, ⟨bp, MO (MM kI kI ps), true⟩, ⟨bt, MO (MM kP vB (TS tk)), true⟩]
theorem zY8 {bc bm bp bt : Nat} {msl ps tk : List (Int × Int)} : ∀ x ∈ chk bc bm bp bt msl ps tk, x.own = true := by simp [chk]
theorem zL3 {bc bm bp bt : Nat} {ps : List (Int × Int)} {s1 s2 : Int} {b : Bool} (hb : decide (Plt.zi9 ps (s1, s2)) = b) (hn : (ps.map Prod.fst).Nodup) (w : World) (h1 : w.heap[bc]? = some (Ce [.map (some bm), .map (some bp), .map (some bt)] 127)) (h2 : w.heap[bp]? = some (MO (MM kI kI ps))) :
    Calls Try.prog 52 #[ptr bc, .agg #[.int .i64 s1, .int .i64 s2]] w fun e w' => e = .returned (.bool b) ∧ Below w.heap.size w w' := by
  have := yb2 (s1 := s1) (s2 := s2) w h1 h2 hn; rwa [hb] at this
end Go.Proofs.Ytdahckhlfldkkaa
namespace Go.Proofs.Ytdahckhlfldkkaa
open Go Go.Sx Go.RowKit
attribute [local irreducible] WL WC WQ WR WB WF QB St Exit.then Exit.inBlock Exit.noGoto bodyPost roundPost zc1 YR RG BM Calls B zc7 ze3
set_option maxHeartbeats 8000000 in
set_option maxRecDepth 100000 in
theorem yk3 {w0 w : World} {L0 : List Ent} {bc bm bp bt : Nat} {msl ps tk : List (Int × Int)} {y : Plt.za3} {d : PD} (hL0 : ∀ x ∈ L0, x.own = true) (hw : Rep w0 w (chk bc bm bp bt msl ps tk ++ L0)) (hy : PassV w0 d y) (hm : (msl.map Prod.fst).Nodup) (hp : (ps.map Prod.fst).Nodup) (ht : tk.Nodup) :
    Calls Try.prog 37 #[ptr bc, .agg #[.int .i64 d.id, .int .i64 d.mach, .int .i64 d.rel, sdV d.src, sdV d.table, sdV d.unread]] w fun e w' => ∃ r G', e = .returned r ∧ (r = .bool (decide (Plt.zh1 msl ps tk y)) ∧ ∃ tk', G' = chk bc bm bp bt msl ps tk' ∧ tk'.Nodup ∧ (Plt.zh1 msl ps tk y → tk' = tk ++ y.src)) ∧ Rep w0 w' (G' ++ L0) := by
  obtain ⟨id, ma, re, ⟨a1, n1, c1⟩, ⟨a2, n2, c2⟩, ⟨a3, n3, c3⟩⟩ := d
  obtain ⟨e1, e2, e3, hs, hr, hu⟩ := hy
  dsimp only [sdV] at e1 e2 e3 hs hr hu ⊢
  subst e1 e2 e3
  obtain ⟨_, _, e1, hc1, hop1⟩ := hs.open
  cases e1
  obtain ⟨_, _, e2, hc2, hop2⟩ := hr.open
  cases e2
  obtain ⟨_, _, e3, hc3, -⟩ := hu.open
  cases e3
  rw [← List.append_nil L0] at hw ⊢
  unfold chk at hw
  simp only [List.cons_append, List.nil_append] at hw
  by_cases hh : Plt.zB3 msl ps y
  case neg =>
    rw [decide_eq_false (fun h : Plt.zh1 msl ps tk y => hh h.1)]
    have hh' := hh
    unfold Plt.zB3 Plt.zB5 at hh'
    cases o2 : asF y.id ps with
    | some z =>
      cases o1 : asF y.mach msl with
      | some n =>
        as_aux_lemma =>
          refine zj3 Try.func37 rfl Try.ntmps37 rfl (hw) ?_
          repeat' (first | ((apply zi5 (κ := kI) (ν := kI) (k := y.mach)); infer_instance; infer_instance; exact rfl; exact rfl; exact sJ_; exact rfl; exact kN_; assumption; assumption; exact rfl) | ((apply zi5 (κ := kI) (ν := kI) (k := y.id)); infer_instance; infer_instance; exact rfl; exact rfl; exact sJ_; exact rfl; exact kN_; assumption; assumption; exact rfl) | ((first | apply w9 | apply y8 | apply x8 | apply p4 | apply n0); exact rfl; exact rfl) | (apply n8; exact rfl; exact tT_; exact rfl; exact rfl) | (apply zc5; exact rfl; exact rfl; exact rfl; intro _) | (apply za5; exact rfl; exact gG_; exact rfl) | ((first | apply s9 | apply x9 | apply z8 | apply s7 | apply s8 | apply w4 | apply z9 | apply w5)) | (apply v8; exact rfl; exact tT_) | ((first | apply w6 | apply z6 | apply z0 | apply p5 | apply y0 | apply z7)) | ((apply p6 (id := 1) []); kernel_rfl; kernel_rfl) | ((apply p6 (id := 2) []); kernel_rfl; kernel_rfl) | (apply za6; try simp only [za9, List.cons_append, List.nil_append]) | ((first | apply i9 | apply n9 | apply m5); exact rfl; exact rfl) | (apply m0; first | refine k8 (h := ?_) | refine p7 (h := ?_) | refine m6 (h := ?_) | refine d8 (h := ?_) | refine d7 (h := ?_)) | ((first | apply ze6 | apply zh4 | apply zm1 | apply ze2); exact rfl; exact rfl; exact rfl) | (apply zb1; refine zb5 (h := ?_)))
          apply p8; apply zb0 Try.results37; exact rV_; intro w' hw
          exact ⟨_, _, rfl, ⟨rfl, tk, rfl, ht, fun h => absurd h.1 hh⟩, hw.sub (by unfold chk; simp only [List.cons_append, List.nil_append]; exact hS_)⟩
      | none =>
        as_aux_lemma =>
          refine zj3 Try.func37 rfl Try.ntmps37 rfl (hw) ?_
          repeat' (first | ((apply zk2 (κ := kI) (ν := kI) (k := y.mach)); infer_instance; infer_instance; infer_instance; exact rfl; exact rfl; exact sJ_; exact rfl; exact kN_; assumption; exact rfl) | ((apply zi5 (κ := kI) (ν := kI) (k := y.id)); infer_instance; infer_instance; exact rfl; exact rfl; exact sJ_; exact rfl; exact kN_; assumption; assumption; exact rfl) | ((first | apply w9 | apply y8 | apply x8 | apply p4 | apply n0); exact rfl; exact rfl) | (apply n8; exact rfl; exact tT_; exact rfl; exact rfl) | (apply zc5; exact rfl; exact rfl; exact rfl; intro _) | (apply za5; exact rfl; exact gG_; exact rfl) | ((first | apply s9 | apply x9 | apply z8 | apply s7 | apply s8 | apply w4 | apply z9 | apply w5)) | (apply v8; exact rfl; exact tT_) | ((first | apply w6 | apply z6 | apply z0 | apply p5 | apply y0 | apply z7)) | ((apply p6 (id := 1) []); kernel_rfl; kernel_rfl) | ((apply p6 (id := 2) []); kernel_rfl; kernel_rfl) | (apply za6; try simp only [za9, List.cons_append, List.nil_append]) | ((first | apply i9 | apply n9 | apply m5); exact rfl; exact rfl) | (apply m0; first | refine k8 (h := ?_) | refine p7 (h := ?_) | refine m6 (h := ?_) | refine d8 (h := ?_) | refine d7 (h := ?_)) | ((first | apply ze6 | apply zh4 | apply zm1 | apply ze2); exact rfl; exact rfl; exact rfl) | (apply zb1; refine zb5 (h := ?_)))
          apply p8; apply zb0 Try.results37; exact rV_; intro w' hw
          exact ⟨_, _, rfl, ⟨rfl, tk, rfl, ht, fun h => absurd h.1 hh⟩, hw.sub (by unfold chk; simp only [List.cons_append, List.nil_append]; exact hS_)⟩
    | none =>
      cases o1 : asF y.mach msl with
      | none =>
        as_aux_lemma =>
          refine zj3 Try.func37 rfl Try.ntmps37 rfl (hw) ?_
          repeat' (first | ((apply zk2 (κ := kI) (ν := kI) (k := y.mach)); infer_instance; infer_instance; infer_instance; exact rfl; exact rfl; exact sJ_; exact rfl; exact kN_; assumption; exact rfl) | ((apply zk2 (κ := kI) (ν := kI) (k := y.id)); infer_instance; infer_instance; infer_instance; exact rfl; exact rfl; exact sJ_; exact rfl; exact kN_; assumption; exact rfl) | ((first | apply w9 | apply y8 | apply x8 | apply p4 | apply n0); exact rfl; exact rfl) | (apply zd5; exact rfl; exact rfl) | (apply n8; exact rfl; exact tT_; exact rfl; exact rfl) | (apply p9; exact rfl; exact fF_; exact rfl; exact rfl) | (apply zc5; exact rfl; exact rfl; exact rfl; intro _) | ((first | apply k9); exact rfl; exact gG_) | (apply za5; exact rfl; exact gG_; exact rfl) | ((first | apply s9 | apply x9 | apply z8 | apply s7 | apply s8 | apply w4 | apply z9 | apply w5)) | (apply v8; exact rfl; exact tT_) | ((first | apply w6 | apply z6 | apply z0 | apply p5 | apply y0 | apply z7)) | ((apply p6 (id := 1) []); kernel_rfl; kernel_rfl) | ((apply p6 (id := 2) []); kernel_rfl; kernel_rfl) | (apply za6; try simp only [za9, List.cons_append, List.nil_append]) | ((first | apply i9 | apply n9 | apply m5); exact rfl; exact rfl) | (apply m0; first | refine k8 (h := ?_) | refine p7 (h := ?_) | refine m6 (h := ?_) | refine d8 (h := ?_) | refine d7 (h := ?_)) | ((first | apply ze6 | apply zh4 | apply zm1 | apply ze2); exact rfl; exact rfl; exact rfl) | (apply zb1; refine zb5 (h := ?_)))
          apply p8; apply zb0 Try.results37; exact rV_; intro w' hw
          exact ⟨_, _, rfl, ⟨rfl, tk, rfl, ht, fun h => absurd h.1 hh⟩, hw.sub (by unfold chk; simp only [List.cons_append, List.nil_append]; exact hS_)⟩
      | some n =>
        have hno : ¬ ((1 ≤ y.id ∧ y.id ≤ 999999) ∧ 0 ≤ y.rel ∧ y.rel ≤ 1051898399) := fun h => hh' ⟨⟨o2, by rw [o1]; rfl⟩, h⟩
        clear hh'
        as_aux_lemma =>
          refine zj3 Try.func37 rfl Try.ntmps37 rfl (hw) ?_
          repeat' (first | ((apply zi5 (κ := kI) (ν := kI) (k := y.mach)); infer_instance; infer_instance; exact rfl; exact rfl; exact sJ_; exact rfl; exact kN_; assumption; assumption; exact rfl) | ((apply zk2 (κ := kI) (ν := kI) (k := y.id)); infer_instance; infer_instance; infer_instance; exact rfl; exact rfl; exact sJ_; exact rfl; exact kN_; assumption; exact rfl) | ((first | ((apply t8 (f := 36)); exact rfl) | ((apply t9 (f := 36)); exact rfl; kernel_rfl; exact rfl; exact sJ_)); exact eV_; exact (fun w hw => zq8 y.id w)) | ((first | apply w9 | apply y8 | apply x8 | apply p4 | apply n0); exact rfl; exact rfl) | (apply w7; first | refine u9 (h := ?_) | refine y9 (h := ?_) | refine w8 (h := ?_) | refine q6 (h := ?_) | refine q0 (h := ?_)) | ((first | apply p3 | apply o8 | apply d9 | apply p0); exact rfl; exact rfl; exact rfl) | (apply zd5; exact rfl; exact rfl) | (apply n8; exact rfl; exact tT_; exact rfl; exact rfl) | (apply p9; exact rfl; exact fF_; exact rfl; exact rfl) | (apply zc5; exact rfl; exact rfl; exact rfl; intro _) | ((first | apply k9); exact rfl; exact gG_) | (apply za5; exact rfl; exact gG_; exact rfl) | ((first | apply s9 | apply x9 | apply z8 | apply s7 | apply s8 | apply w4 | apply z9 | apply w5)) | (apply v8; exact rfl; exact tT_) | ((first | apply w6 | apply z6 | apply z0 | apply p5 | apply y0 | apply z7)) | ((apply p6 (id := 1) []); kernel_rfl; kernel_rfl) | ((apply p6 (id := 2) []); kernel_rfl; kernel_rfl) | (apply za6; try simp only [za9, List.cons_append, List.nil_append]) | ((first | apply i9 | apply n9 | apply m5); exact rfl; exact rfl) | (apply m0; first | refine k8 (h := ?_) | refine p7 (h := ?_) | refine m6 (h := ?_) | refine d8 (h := ?_) | refine d7 (h := ?_)) | ((first | apply ze6 | apply zh4 | apply zm1 | apply ze2); exact rfl; exact rfl; exact rfl) | (apply zb1; refine zb5 (h := ?_)) | (apply zd3; exact rfl; intro hcond; rotate_left; intro hcond; rotate_left))
          all_goals first
            | (exfalso; omega)
            | (apply p8; apply zb0 Try.results37; exact rV_; intro w' hw
               exact ⟨_, _, rfl, ⟨rfl, tk, rfl, ht, fun h => absurd h.1 hh⟩, hw.sub (by unfold chk; simp only [List.cons_append, List.nil_append]; exact hS_)⟩)
  have hh' := hh
  unfold Plt.zB3 Plt.zB5 at hh'
  obtain ⟨⟨o2, o1'⟩, hid⟩ := hh'
  obtain ⟨n, o1⟩ := Option.isSome_iff_exists.1 o1'
  clear o1'
  refine zj3 Try.func37 rfl Try.ntmps37 rfl (hw) ?_
  repeat' (first | (apply v9; exact rfl; exact dF_) | (apply p9; exact rfl; exact dF_; exact rfl; exact rfl) | (apply k9; exact rfl; exact dF_) | ((apply zi5 (κ := kI) (ν := kI) (k := y.mach)); infer_instance; infer_instance; exact rfl; exact rfl; exact sJ_; exact rfl; exact kN_; assumption; assumption; exact rfl) | ((apply zk2 (κ := kI) (ν := kI) (k := y.id)); infer_instance; infer_instance; infer_instance; exact rfl; exact rfl; exact sJ_; exact rfl; exact kN_; assumption; exact rfl) | ((first | ((apply t8 (f := 36)); exact rfl) | ((apply t9 (f := 36)); exact rfl; kernel_rfl; exact rfl; exact sJ_)); exact eV_; exact (fun w hw => zq8 y.id w)) | ((first | apply w9 | apply y8 | apply x8 | apply p4 | apply n0); exact rfl; exact rfl) | (apply w7; first | refine u9 (h := ?_) | refine y9 (h := ?_) | refine w8 (h := ?_) | refine q6 (h := ?_) | refine q0 (h := ?_)) | ((first | apply p3 | apply o8 | apply d9 | apply p0); exact rfl; exact rfl; exact rfl) | (apply zd5; exact rfl; exact rfl) | (apply p9; exact rfl; exact fF_; exact rfl; exact rfl) | (apply zc5; exact rfl; exact rfl; exact rfl; intro _) | (apply o9; infer_instance; exact rfl; exact rfl) | ((first | apply k9); exact rfl; exact gG_) | ((first | apply s9 | apply x9 | apply z8 | apply s7 | apply s8 | apply w4 | apply z9 | apply w5)) | ((first | apply w6 | apply z6 | apply z0 | apply p5 | apply y0 | apply z7)) | ((apply p6 (id := 1) []); kernel_rfl; kernel_rfl) | ((apply p6 (id := 2) []); kernel_rfl; kernel_rfl) | (apply za6; try simp only [za9, List.cons_append, List.nil_append]) | ((first | apply i9 | apply n9 | apply m5); exact rfl; exact rfl) | (apply m0; first | refine k8 (h := ?_) | refine p7 (h := ?_) | refine m6 (h := ?_) | refine d8 (h := ?_) | refine d7 (h := ?_)) | ((first | apply ze6 | apply zh4 | apply zm1 | apply ze2); exact rfl; exact rfl; exact rfl) | (apply zb1; refine zb5 (h := ?_)))
  rename_i b3
  apply j9 (σ := Nat) (Fs := fun i => [(58, .int .i64 i), (57, .int .i64 y.src.length), (56, .slice a1 y.src.length c1), (5, .int .i64 n), (3, ptr b3), (0, ptr bc)])
    (Ls := fun i => ⟨b3, Ce [.int .i64 y.id, .int .i64 y.mach, .int .i64 y.rel, .slice a1 y.src.length c1, .slice a2 y.table.length c2, .slice a3 y.unread.length c3] 49, true⟩ :: ⟨bc, Ce [.map (some bm), .map (some bp), .map (some bt)] 127, true⟩ :: ⟨bm, MO (MM kI kI msl), true⟩ :: ⟨bp, MO (MM kI kI ps), true⟩ :: ⟨bt, MO (MM kP vB (TS (tk ++ y.src.take i))), true⟩ :: (L0 ++ []))
    (I := fun i => i ≤ y.src.length ∧ (tk ++ y.src.take i).Nodup ∧ Plt.zg1 ps tk (y.src.take i)) (μ := fun i => y.src.length - i) (s0 := 0)
  · exact ⟨Nat.zero_le _, by simpa using ht, by simp [Plt.zg1]⟩
  · exact fS_
  · simp only [List.take_zero, List.append_nil]; exact hS_
  rintro i ⟨hi, hnd, hso⟩
  by_cases hlt : i < y.src.length
  · obtain ⟨⟨s1, s2⟩, hx⟩ : ∃ s, y.src[i]? = some s := ⟨_, List.getElem?_eq_getElem hlt⟩
    obtain ⟨b, off, cc, e, fz, rfl, hk, hpt⟩ := hop1 (by omega)
    have g1 : ∀ j u, ([.int .i64 s1, .int .i64 s2] : List Value)[j]? = some u → cc[off + i * 2 + j]? = some u := hpt.get hx
    have etk : y.src.take (i + 1) = y.src.take i ++ [(s1, s2)] := take_snoc hx
    have hne : ¬ (Plt.zi9 ps (s1, s2) ∧ (s1, s2) ∉ tk ++ y.src.take i) → ¬ Plt.zh1 msl ps tk y := fun h1 h2 => h1 (by
      have := ys9 h2.2.1 (i + 1)
      rw [etk, zL5] at this
      exact this.2)
    have hnx : (s1, s2) ∉ tk ++ y.src.take i → Plt.zi9 ps (s1, s2) → Plt.zg1 ps tk (y.src.take (i + 1)) := fun h1 h2 => by rw [etk, zL5]; exact ⟨hso, h2, h1⟩
    have hnn : (s1, s2) ∉ tk ++ y.src.take i → (tk ++ y.src.take (i + 1)).Nodup := fun h1 => by rw [etk, ← List.append_assoc]; exact zl2 hnd h1
    have htt : (s1, s2) ∉ tk ++ y.src.take i → ze8 (s1, s2) true (TS (tk ++ y.src.take i)) = TS (tk ++ y.src.take (i + 1)) := fun h1 => by rw [yH7 h1, etk, List.append_assoc]
    generalize htki : tk ++ y.src.take i = tki at hnd hne hnx hnn htt ⊢
    have hkn := zO4 hnd
    cases hb : decide (Plt.zi9 ps (s1, s2)) with
    | false =>
      rw [decide_eq_false (hne fun h => of_decide_eq_false hb h.1)]
      have hne' := hne fun h => of_decide_eq_false hb h.1
      as_aux_lemma =>
        repeat' (first | (apply v8; exact rfl; exact dT_) | ((first | ((apply t8 (f := 52)); exact rfl) | ((apply t9 (f := 52)); exact rfl; kernel_rfl; exact rfl; exact sJ_)); exact eV_; exact (fun w hw => zL3 hb hp w (hw.at (by exact aT_)) (hw.at (by exact aT_)))) | ((first | apply w9 | apply y8 | apply x8 | apply p4 | apply n0); exact rfl; exact rfl) | (apply w7; first | refine u9 (h := ?_) | refine y9 (h := ?_) | refine w8 (h := ?_) | refine q6 (h := ?_) | refine q0 (h := ?_)) | ((first | apply p3 | apply o8 | apply d9 | apply p0); exact rfl; exact rfl; exact rfl) | ((first | apply o7 | apply c8); exact rfl; intro _) | (apply q7; first | refine q8 (h := ?_) | refine q9 (h := ?_)) | (apply m8; infer_instance; infer_instance; exact rfl; exact rfl; (first | exact rfl | omega); exact rfl; (first | assumption | omega | decide)) | ((first | apply s9 | apply x9 | apply z8 | apply s7 | apply s8 | apply w4 | apply z9 | apply w5)) | (apply v8; exact rfl; exact tT_) | ((first | apply w6 | apply z6 | apply z0 | apply p5 | apply y0 | apply z7)) | ((apply p6 (id := 8) []); kernel_rfl; kernel_rfl) | (apply za6; try simp only [za9, List.cons_append, List.nil_append]) | ((first | apply i9 | apply n9 | apply m5); exact rfl; exact rfl) | (apply m0; first | refine k8 (h := ?_) | refine p7 (h := ?_) | refine m6 (h := ?_) | refine d8 (h := ?_) | refine d7 (h := ?_)) | (apply yo7; exact rfl; exact rfl) | (apply zm8; exact rfl; exact tT_; exact rfl; exact rfl) | (apply zv7; exact rfl; exact gG_; exact rfl))
        apply p8; apply zb0 Try.results37; exact rV_; intro w' hw
        exact ⟨_, _, rfl, ⟨rfl, tki, rfl, hnd, fun h => absurd h hne'⟩, hw.sub (by unfold chk; simp only [List.cons_append, List.nil_append]; exact hS_)⟩
    | true =>
      have hok := of_decide_eq_true hb
      by_cases hin : (s1, s2) ∈ tki
      · have ho := yK2 hin hnd
        have hne' := hne fun h => h.2 hin
        rw [decide_eq_false hne']
        as_aux_lemma =>
          repeat' (first | (apply v8; exact rfl; exact dT_) | ((first | ((apply t8 (f := 52)); exact rfl) | ((apply t9 (f := 52)); exact rfl; kernel_rfl; exact rfl; exact sJ_)); exact eV_; exact (fun w hw => zL3 hb hp w (hw.at (by exact aT_)) (hw.at (by exact aT_)))) | ((apply zp7 (κ := kP) (ν := vB) (k := (s1, s2))); infer_instance; infer_instance; exact rfl; exact rfl; exact sJ_; exact rfl; exact kN_; assumption; assumption; exact rfl) | ((first | apply w9 | apply y8 | apply x8 | apply p4 | apply n0); exact rfl; exact rfl) | (apply w7; first | refine u9 (h := ?_) | refine y9 (h := ?_) | refine w8 (h := ?_) | refine q6 (h := ?_) | refine q0 (h := ?_)) | ((first | apply p3 | apply o8 | apply d9 | apply p0); exact rfl; exact rfl; exact rfl) | ((first | apply o7 | apply c8); exact rfl; intro _) | (apply q7; first | refine q8 (h := ?_) | refine q9 (h := ?_)) | (apply m8; infer_instance; infer_instance; exact rfl; exact rfl; (first | exact rfl | omega); exact rfl; (first | assumption | omega | decide)) | ((first | apply s9 | apply x9 | apply z8 | apply s7 | apply s8 | apply w4 | apply z9 | apply w5)) | (apply v8; exact rfl; exact tT_) | ((first | apply w6 | apply z6 | apply z0 | apply p5 | apply y0 | apply z7)) | ((apply p6 (id := 8) []); kernel_rfl; kernel_rfl) | (apply za6; try simp only [za9, List.cons_append, List.nil_append]) | ((first | apply i9 | apply n9 | apply m5); exact rfl; exact rfl) | (apply m0; first | refine k8 (h := ?_) | refine p7 (h := ?_) | refine m6 (h := ?_) | refine d8 (h := ?_) | refine d7 (h := ?_)) | (apply yo7; exact rfl; exact rfl) | (apply zh9; exact rfl; exact fF_; exact rfl; exact rfl) | (apply zb1; refine zb5 (h := ?_)) | ((first | apply zt3); exact rfl; exact gG_))
          apply p8; apply zb0 Try.results37; exact rV_; intro w' hw
          exact ⟨_, _, rfl, ⟨rfl, tki, rfl, hnd, fun h => absurd h hne'⟩, hw.sub (by unfold chk; simp only [List.cons_append, List.nil_append]; exact hS_)⟩
      · have ho := yt6 hin
        have h1 := hnx hin hok
        have h2 := hnn hin
        have h3 := htt hin
        as_aux_lemma =>
          repeat' (first | (apply v8; exact rfl; exact dT_) | ((first | ((apply t8 (f := 52)); exact rfl) | ((apply t9 (f := 52)); exact rfl; kernel_rfl; exact rfl; exact sJ_)); exact eV_; exact (fun w hw => zL3 hb hp w (hw.at (by exact aT_)) (hw.at (by exact aT_)))) | ((apply zC2 (κ := kP) (ν := vB) (k := (s1, s2))); infer_instance; infer_instance; infer_instance; exact rfl; exact rfl; exact sJ_; exact rfl; exact kN_; assumption; exact rfl) | ((apply zg0 (id := 10) [] 5); kernel_rfl; kernel_rfl; simp only [List.take_succ_cons, List.take_zero, List.drop_succ_cons, List.drop_zero]) | ((apply zm6 (κ := kP) (ν := vB) (k := (s1, s2)) (v := true)); infer_instance; infer_instance; exact rfl; exact rfl; exact rfl; exact aT_; assumption; exact uP_) | ((first | apply w9 | apply y8 | apply x8 | apply p4 | apply n0); exact rfl; exact rfl) | (apply w7; first | refine u9 (h := ?_) | refine y9 (h := ?_) | refine w8 (h := ?_) | refine q6 (h := ?_) | refine q0 (h := ?_)) | ((first | apply p3 | apply o8 | apply d9 | apply p0); exact rfl; exact rfl; exact rfl) | (apply j0; exact rfl; exact rfl; exact rfl; (constructor <;> omega)) | ((first | apply o7 | apply c8); exact rfl; intro _) | (apply q7; first | refine q8 (h := ?_) | refine q9 (h := ?_)) | (apply m8; infer_instance; infer_instance; exact rfl; exact rfl; (first | exact rfl | omega); exact rfl; (first | assumption | omega | decide)) | ((first | apply s9 | apply x9 | apply z8 | apply s7 | apply s8 | apply w4 | apply z9 | apply w5)) | (apply v9; exact rfl; exact fF_) | ((first | apply w6 | apply z6 | apply z0 | apply p5 | apply y0 | apply z7)) | ((apply p6 (id := 8) []); kernel_rfl; kernel_rfl) | (apply za6; try simp only [za9, List.cons_append, List.nil_append]) | ((first | apply i9 | apply n9 | apply m5); exact rfl; exact rfl) | (apply m0; first | refine k8 (h := ?_) | refine p7 (h := ?_) | refine m6 (h := ?_) | refine d8 (h := ?_) | refine d7 (h := ?_)) | (apply yo7; exact rfl; exact rfl) | (apply zh9; exact rfl; exact fF_; exact rfl; exact rfl) | (apply zb1; refine zb5 (h := ?_)) | ((first | apply zt3); exact rfl; exact gG_))
          refine o0 (i + 1) ⟨by omega, h2, h1⟩ (by omega) ?_ ?_
          · exact fS_
          · (try dsimp only); rw [← h3]; exact hS_
  obtain rfl : i = y.src.length := by omega
  rw [List.take_length] at hnd hso ⊢
  have hkn := zO4 hnd
  by_cases hlen : y.table.length ≤ 1000 ∧ y.unread.length ≤ 2000
  case neg =>
    have hne' : ¬ Plt.zh1 msl ps tk y := fun h => hlen h.2.2.1
    rw [decide_eq_false hne']
    as_aux_lemma =>
      repeat' (first | ((first | apply w9 | apply y8 | apply x8 | apply p4 | apply n0); exact rfl; exact rfl) | (apply w7; first | refine u9 (h := ?_) | refine y9 (h := ?_) | refine w8 (h := ?_) | refine q6 (h := ?_) | refine q0 (h := ?_)) | ((first | apply p3 | apply o8 | apply d9 | apply p0); exact rfl; exact rfl; exact rfl) | (apply n8; exact rfl; exact tT_; exact rfl; exact rfl) | (apply p9; exact rfl; exact fF_; exact rfl; exact rfl) | (apply o9; infer_instance; exact rfl; exact rfl) | ((first | apply k9); exact rfl; exact gG_) | (apply za5; exact rfl; exact gG_; exact rfl) | ((first | apply s9 | apply x9 | apply z8 | apply s7 | apply s8 | apply w4 | apply z9 | apply w5)) | (apply v8; exact rfl; exact tT_) | (apply v9; exact rfl; exact fF_) | ((first | apply w6 | apply z6 | apply z0 | apply p5 | apply y0 | apply z7)) | (apply zd3; exact rfl; intro hcond; rotate_left; intro hcond; rotate_left))
      all_goals first
        | (exfalso; omega)
        | (apply p8; apply zb0 Try.results37; exact rV_; intro w' hw
           exact ⟨_, _, rfl, ⟨rfl, tk ++ y.src, rfl, hnd, fun h => absurd h hne'⟩, hw.sub (by unfold chk; simp only [List.cons_append, List.nil_append]; exact hS_)⟩)
  repeat' (first | (apply v9; exact rfl; exact dF_) | (apply p9; exact rfl; exact dF_; exact rfl; exact rfl) | (apply k9; exact rfl; exact dF_) | ((first | apply w9 | apply y8 | apply x8 | apply p4 | apply n0); exact rfl; exact rfl) | (apply w7; first | refine u9 (h := ?_) | refine y9 (h := ?_) | refine w8 (h := ?_) | refine q6 (h := ?_) | refine q0 (h := ?_)) | ((first | apply p3 | apply o8 | apply d9 | apply p0); exact rfl; exact rfl; exact rfl) | (apply o9; infer_instance; exact rfl; exact rfl) | (apply zm0; infer_instance; exact rfl; exact rfl; intro _) | ((first | apply s9 | apply x9 | apply z8 | apply s7 | apply s8 | apply w4 | apply z9 | apply w5)) | ((first | apply w6 | apply z6 | apply z0 | apply p5 | apply y0 | apply z7)))
  rename_i bs
  apply j9 (σ := Nat) (Fs := fun i => [(97, .int .i64 i), (96, .int .i64 y.table.length), (95, .slice a2 y.table.length c2), (11, .map (some bs)), (5, .int .i64 n), (3, ptr b3), (0, ptr bc)])
    (Ls := fun i => ⟨bs, MO (zx9 .i64 ((y.table.take i).map Plt.Row.stop)), true⟩ :: ⟨b3, Ce [.int .i64 y.id, .int .i64 y.mach, .int .i64 y.rel, .slice a1 y.src.length c1, .slice a2 y.table.length c2, .slice a3 y.unread.length c3] 49, true⟩ :: ⟨bc, Ce [.map (some bm), .map (some bp), .map (some bt)] 127, true⟩ :: ⟨bm, MO (MM kI kI msl), true⟩ :: ⟨bp, MO (MM kI kI ps), true⟩ :: ⟨bt, MO (MM kP vB (TS (tk ++ y.src))), true⟩ :: (L0 ++ []))
    (I := fun i => i ≤ y.table.length ∧ ((y.table.take i).map Plt.Row.stop).Nodup ∧ Plt.zf6 n [] (y.table.take i)) (μ := fun i => y.table.length - i) (s0 := 0)
  · exact ⟨Nat.zero_le _, by simp, by simp [Plt.zf6]⟩
  · exact fS_
  · exact hS_
  rintro i ⟨hi, hns, hro⟩
  by_cases hlt : i < y.table.length
  · obtain ⟨⟨st, sk⟩, hx⟩ : ∃ s, y.table[i]? = some s := ⟨_, List.getElem?_eq_getElem hlt⟩
    obtain ⟨b, off, cc, e, fz, rfl, hk, hpt⟩ := hop2 (by omega)
    have g1 : ∀ j u, ([.int .i64 st, .int .i64 sk] : List Value)[j]? = some u → cc[off + i * 2 + j]? = some u := hpt.get hx
    have ett : y.table.take (i + 1) = y.table.take i ++ [⟨st, sk⟩] := take_snoc hx
    have eme : (y.table.take (i + 1)).map Plt.Row.stop = (y.table.take i).map Plt.Row.stop ++ [st] := by rw [ett]; simp
    have hne : ¬ (st ∉ (y.table.take i).map Plt.Row.stop ∧ 0 ≤ sk ∧ sk < n) → ¬ Plt.zh1 msl ps tk y := fun h1 h2 => h1 (by
      have := zX2 (i + 1) h2.2.2.2
      rw [ett, zK9, o1] at this
      exact this.2)
    have hnx : st ∉ (y.table.take i).map Plt.Row.stop → (0 ≤ sk ∧ sk < n) → Plt.zf6 n [] (y.table.take (i + 1)) := fun h1 h2 => by rw [ett, zK9]; exact ⟨hro, h1, h2⟩
    have hnn : st ∉ (y.table.take i).map Plt.Row.stop → ((y.table.take (i + 1)).map Plt.Row.stop).Nodup := fun h1 => by rw [eme]; exact zl2 hns h1
    generalize (y.table.take i).map Plt.Row.stop = met at hns hne hnx hnn eme ⊢
    by_cases hin : st ∈ met
    · have hne' := hne fun h => h.1 hin
      rw [decide_eq_false hne']
      as_aux_lemma =>
        repeat' (first | ((first | apply w9 | apply y8 | apply x8 | apply p4 | apply n0); exact rfl; exact rfl) | (apply w7; first | refine u9 (h := ?_) | refine y9 (h := ?_) | refine w8 (h := ?_) | refine q6 (h := ?_) | refine q0 (h := ?_)) | ((first | apply p3 | apply o8 | apply d9 | apply p0); exact rfl; exact rfl; exact rfl) | (apply n8; exact rfl; exact tT_; exact rfl; exact rfl) | ((first | apply o7 | apply c8); exact rfl; intro _) | (apply q7; first | refine q8 (h := ?_) | refine q9 (h := ?_)) | (apply zg7; refine zk5 (h := ?_)) | (apply m8; infer_instance; infer_instance; exact rfl; exact rfl; (first | exact rfl | omega); exact rfl; (first | assumption | omega | decide)) | (apply za5; exact rfl; exact gG_; exact rfl) | ((first | apply s9 | apply x9 | apply z8 | apply s7 | apply s8 | apply w4 | apply z9 | apply w5)) | (apply v8; exact rfl; exact tT_) | ((first | apply w6 | apply z6 | apply z0 | apply p5 | apply y0 | apply z7)))
        all_goals first
          | (exfalso; omega)
          | (apply p8; apply zb0 Try.results37; exact rV_; intro w' hw
             exact ⟨_, _, rfl, ⟨rfl, tk ++ y.src, rfl, hnd, fun h => absurd h hne'⟩, hw.sub (by unfold chk; simp only [List.cons_append, List.nil_append]; exact hS_)⟩)
    · by_cases hrg : 0 ≤ sk ∧ sk < n
      · have h1 := hnx hin hrg
        have h2 := hnn hin
        as_aux_lemma =>
          repeat' (first | (apply v8; exact rfl; exact dT_) | (apply v9; exact rfl; exact dF_) | (apply p9; exact rfl; exact dF_; exact rfl; exact rfl) | (apply k9; exact rfl; exact dF_) | ((first | apply w9 | apply y8 | apply x8 | apply p4 | apply n0); exact rfl; exact rfl) | (apply w7; first | refine u9 (h := ?_) | refine y9 (h := ?_) | refine w8 (h := ?_) | refine q6 (h := ?_) | refine q0 (h := ?_)) | ((first | apply p3 | apply o8 | apply d9 | apply p0); exact rfl; exact rfl; exact rfl) | (apply j0; exact rfl; exact rfl; exact rfl; (constructor <;> omega)) | ((first | apply o7 | apply c8); exact rfl; intro _) | (apply q7; first | refine q8 (h := ?_) | refine q9 (h := ?_)) | (apply zg7; refine zk5 (h := ?_)) | (apply zq1; refine zA1 (h := ?_)) | (apply m8; infer_instance; infer_instance; exact rfl; exact rfl; (first | exact rfl | omega); exact rfl; (first | assumption | omega | decide)) | ((first | apply s9 | apply x9 | apply z8 | apply s7 | apply s8 | apply w4 | apply z9 | apply w5)) | ((first | apply w6 | apply z6 | apply z0 | apply p5 | apply y0 | apply z7)))
          refine o0 (i + 1) ⟨by omega, h2, h1⟩ (by omega) ?_ ?_
          · exact fS_
          · simp only [eme]; exact hS_
      · have hne' := hne fun h => hrg h.2
        rw [decide_eq_false hne']
        as_aux_lemma =>
          repeat' (first | ((first | apply w9 | apply y8 | apply x8 | apply p4 | apply n0); exact rfl; exact rfl) | (apply w7; first | refine u9 (h := ?_) | refine y9 (h := ?_) | refine w8 (h := ?_) | refine q6 (h := ?_) | refine q0 (h := ?_)) | ((first | apply p3 | apply o8 | apply d9 | apply p0); exact rfl; exact rfl; exact rfl) | (apply n8; exact rfl; exact tT_; exact rfl; exact rfl) | (apply p9; exact rfl; exact fF_; exact rfl; exact rfl) | ((first | apply o7 | apply c8); exact rfl; intro _) | (apply q7; first | refine q8 (h := ?_) | refine q9 (h := ?_)) | (apply zg7; refine zk5 (h := ?_)) | (apply m8; infer_instance; infer_instance; exact rfl; exact rfl; (first | exact rfl | omega); exact rfl; (first | assumption | omega | decide)) | ((first | apply k9); exact rfl; exact gG_) | (apply za5; exact rfl; exact gG_; exact rfl) | ((first | apply s9 | apply x9 | apply z8 | apply s7 | apply s8 | apply w4 | apply z9 | apply w5)) | (apply v8; exact rfl; exact tT_) | ((first | apply w6 | apply z6 | apply z0 | apply p5 | apply y0 | apply z7)) | (apply zd3; exact rfl; intro hcond; rotate_left; intro hcond; rotate_left))
          all_goals first
            | (exfalso; omega)
            | (apply p8; apply zb0 Try.results37; exact rV_; intro w' hw
               exact ⟨_, _, rfl, ⟨rfl, tk ++ y.src, rfl, hnd, fun h => absurd h hne'⟩, hw.sub (by unfold chk; simp only [List.cons_append, List.nil_append]; exact hS_)⟩)
  obtain rfl : i = y.table.length := by omega
  rw [List.take_length] at hro
  have hok : Plt.zh1 msl ps tk y := ⟨hh, hso, hlen, by rw [o1]; exact hro⟩
  rw [decide_eq_true hok]
  as_aux_lemma =>
    repeat' (first | (apply v9; exact rfl; exact dF_) | ((first | apply w9 | apply y8 | apply x8 | apply p4 | apply n0); exact rfl; exact rfl) | ((first | apply p3 | apply o8 | apply d9 | apply p0); exact rfl; exact rfl; exact rfl) | ((first | apply s9 | apply x9 | apply z8 | apply s7 | apply s8 | apply w4 | apply z9 | apply w5)) | ((first | apply w6 | apply z6 | apply z0 | apply p5 | apply y0 | apply z7)))
    apply p8; apply zb0 Try.results37; exact rV_; intro w' hw
    exact ⟨_, _, rfl, ⟨rfl, tk ++ y.src, rfl, hnd, fun _ => rfl⟩, hw.sub (by unfold chk; simp only [List.cons_append, List.nil_append]; exact hS_)⟩
end Go.Proofs.Ytdahckhlfldkkaa
namespace Go.Proofs.Ytdahckhlfldkkaa
open Go Go.Sx Go.RowKit
attribute [local irreducible] WL WC WQ WR WB WF QB St Exit.then Exit.inBlock Exit.noGoto bodyPost roundPost zc1 YR RG BM Calls B zc7 ze3
theorem yf3 {id sw ra : Int} {a1 a2 : Option Addr} {n1 c1 n2 c2 : Nat} {m : Plt.zb6} {b : Bool} (hb : decide (Plt.zi1 m) = b) (w : World) (h : MachV w ⟨id, sw, ra, (a1, n1, c1), (a2, n2, c2)⟩ m) : Calls Try.prog 35 #[.agg #[.int .i64 id, .int .i64 sw, .int .i64 ra, .slice a1 n1 c1, .slice a2 n2 c2]] w fun e w' => e = .returned (.bool b) ∧ Below w.heap.size w w' := by
  have := yf2 w h; rw [hb] at this; exact this
theorem zh5 (ms : List Plt.zb6) : (Plt.zf5 ms).map Prod.fst = ms.map Plt.zb6.id := by simp [Plt.zf5, Function.comp_def]
theorem yq7 {ms : List Plt.zb6} {i : Nat} {m : Plt.zb6} (h : ms[i]? = some m) : Plt.zf5 (ms.take (i + 1)) = Plt.zf5 (ms.take i) ++ [(m.id, (m.caps.length : Int))] := by rw [take_snoc h]; simp [Plt.zf5]
theorem yD0 {ms : List Plt.zb6} {id : Int} (h : id ∈ ms.map Plt.zb6.id) : ∃ n, asF id (Plt.zf5 ms) = some n := by
  cases ho : asF id (Plt.zf5 ms) with
  | some n => exact ⟨n, rfl⟩
  | none =>
    obtain ⟨m, hm, e⟩ := List.mem_map.1 h
    exact absurd e (zj1.1 ho (m.id, (m.caps.length : Int)) (List.mem_map.2 ⟨m, hm, rfl⟩))
theorem yw5 {ms : List Plt.zb6} {id : Int} (h : id ∉ ms.map Plt.zb6.id) : asF id (Plt.zf5 ms) = none := by
  rw [zj1]
  intro p hp e
  obtain ⟨m, hm, rfl⟩ := List.mem_map.1 hp
  exact h (List.mem_map.2 ⟨m, hm, e⟩)
def psF (msl : List (Int × Int)) (l : List Plt.za3) : List (Int × Int) := l.map fun y => (y.id, (asF y.mach msl).getD 0)
def tkF (l : List Plt.za3) : List (Int × Int) := l.flatMap Plt.za3.src
theorem zl3 {msl : List (Int × Int)} {l : List Plt.za3} {i : Nat} {y : Plt.za3} (h : l[i]? = some y) : psF msl (l.take (i + 1)) = psF msl (l.take i) ++ [(y.id, (asF y.mach msl).getD 0)] := by rw [take_snoc h]; simp [psF]
theorem zi7 {l : List Plt.za3} {i : Nat} {y : Plt.za3} (h : l[i]? = some y) : tkF (l.take (i + 1)) = tkF (l.take i) ++ y.src := by rw [take_snoc h]; simp [tkF]
theorem yo3 {w0 w : World} {L0 : List Ent} {bc bm bp bt : Nat} {msl ps tk : List (Int × Int)} {y : Plt.za3} {id ma re : Int} {a1 a2 a3 : Option Addr} {n1 c1 n2 c2 n3 c3 : Nat} {bb : Bool} (hb : decide (Plt.zh1 msl ps tk y) = bb) (hL0 : ∀ x ∈ L0, x.own = true) (hw : Rep w0 w (chk bc bm bp bt msl ps tk ++ L0)) (hy : PassV w0 ⟨id, ma, re, (a1, n1, c1), (a2, n2, c2), (a3, n3, c3)⟩ y) (hm : (msl.map Prod.fst).Nodup) (hp : (ps.map Prod.fst).Nodup) (ht : tk.Nodup) :
    Calls Try.prog 37 #[ptr bc, .agg #[.int .i64 id, .int .i64 ma, .int .i64 re, .slice a1 n1 c1, .slice a2 n2 c2, .slice a3 n3 c3]] w fun e w' => ∃ r G', e = .returned r ∧ (r = .bool bb ∧ ∃ tk', G' = chk bc bm bp bt msl ps tk' ∧ tk'.Nodup ∧ (Plt.zh1 msl ps tk y → tk' = tk ++ y.src)) ∧ Rep w0 w' (G' ++ L0) := by
  have := yk3 hL0 hw hy hm hp ht; rw [hb] at this; exact this
set_option maxHeartbeats 8000000 in
set_option maxRecDepth 100000 in
theorem yh4 {q : PlD} {p : Plt.g8} (w : World) (h : PlV w q p) : Calls Try.prog 14 #[plV q] w fun e w' => e = .returned (.tuple #[.int .i64 (Plt.zc6 p).1, .int .i64 (Plt.zc6 p).2]) ∧ Below w.heap.size w w' := by
  obtain ⟨⟨a1, n1, c1⟩, ⟨a2, n2, c2⟩, ⟨a3, n3, c3⟩, ds, ys⟩ := q
  obtain ⟨hM, hI, hP, lm, lp, hmach, hpass⟩ := h
  dsimp only [sdV, plV] at hM hI hP lm lp hmach hpass ⊢
  obtain ⟨_, _, e1, hc1, hop1⟩ := hM.open
  cases e1
  obtain ⟨_, _, e2, hc2, hop2⟩ := hI.open
  cases e2
  obtain ⟨_, _, e3, hc3, hop3⟩ := hP.open
  cases e3
  rw [lm] at hM hop1 hc1 ⊢
  rw [lp] at hP hop3 hc3 ⊢
  by_cases hbig : 20 < p.ms.length ∨ 2000 < p.items.length ∨ 60 < p.passes.length
  · have e : Plt.zc6 p = (0, 5) := by unfold Plt.zc6; rw [if_pos hbig]
    rw [e]
    as_aux_lemma =>
      refine zd2 Try.func14 rfl Try.ntmps14 rfl (Rep.start w) ?_
      repeat' (first | ((first | apply w9 | apply y8 | apply x8 | apply p4); exact rfl; exact rfl) | (apply w7; first | refine u9 (h := ?_) | refine y9 (h := ?_) | refine w8 (h := ?_) | refine q6 (h := ?_) | refine q0 (h := ?_)) | ((first | apply p3 | apply o8 | apply p0); exact rfl; exact rfl; exact rfl) | (apply n8; exact rfl; exact tT_; exact rfl; exact rfl) | (apply p9; exact rfl; exact fF_; exact rfl; exact rfl) | (apply zc5; exact rfl; exact rfl; exact rfl; intro _) | (apply o9; infer_instance; exact rfl; exact rfl) | ((first | apply k9); exact rfl; exact gG_) | (apply za5; exact rfl; exact gG_; exact rfl) | ((first | apply s9 | apply x9 | apply z8 | apply s7 | apply s8 | apply w4 | apply z9 | apply w5)) | (apply v8; exact rfl; exact tT_) | ((first | apply w6 | apply z6 | apply z0 | apply p5 | apply y0 | apply z7)) | (apply zd3; exact rfl; intro hcond; rotate_left; intro hcond; rotate_left))
      all_goals first
        | (exfalso; omega)
        | (apply p8; apply zf9 Try.results14; exact rV_; exact rV_; intro w' hw; exact ⟨rfl, hw.below (by simp)⟩)
  have em : ∀ i, Plt.zf8 [] 0 p.ms = some i → Plt.zc6 p = (i, 310) := fun i h => by unfold Plt.zc6; rw [if_neg hbig, h]
  have ei : Plt.zf8 [] 0 p.ms = none → ∀ i, Plt.zg5 [] 0 p.items = some i → Plt.zc6 p = (i, 311) := fun h0 i h => by unfold Plt.zc6; rw [if_neg hbig, h0]; dsimp only; rw [h]
  have ep : Plt.zf8 [] 0 p.ms = none → Plt.zg5 [] 0 p.items = none → ∀ i, Plt.zf7 (Plt.zf5 p.ms) [] [] 0 p.passes = some i → Plt.zc6 p = (i, 312) := fun h0 h1 i h => by unfold Plt.zc6; rw [if_neg hbig, h0]; dsimp only; rw [h1]; dsimp only; rw [h]
  have eo : Plt.zf8 [] 0 p.ms = none → Plt.zg5 [] 0 p.items = none → Plt.zf7 (Plt.zf5 p.ms) [] [] 0 p.passes = none → Plt.zc6 p = (0, 0) := fun h0 h1 h => by unfold Plt.zc6; rw [if_neg hbig, h0]; dsimp only; rw [h1]; dsimp only; rw [h]
  generalize Plt.zc6 p = vf at em ei ep eo ⊢
  refine zd2 Try.func14 rfl Try.ntmps14 rfl (Rep.start w) ?_
  repeat' (first | (apply v9; exact rfl; exact dF_) | (apply p9; exact rfl; exact dF_; exact rfl; exact rfl) | (apply k9; exact rfl; exact dF_) | ((first | apply w9 | apply y8 | apply x8 | apply p4); exact rfl; exact rfl) | (apply w7; first | refine u9 (h := ?_) | refine y9 (h := ?_) | refine w8 (h := ?_) | refine q6 (h := ?_) | refine q0 (h := ?_)) | ((first | apply p3 | apply o8 | apply p0); exact rfl; exact rfl; exact rfl) | ((first | apply o7 | apply c8); exact rfl; intro _) | (apply zc5; exact rfl; exact rfl; exact rfl; intro _) | (apply q7; first | refine q8 (h := ?_) | refine q9 (h := ?_)) | (apply g7; first | refine a8 (h := ?_)) | (apply o9; infer_instance; exact rfl; exact rfl) | ((first | apply s9 | apply x9 | apply z8 | apply s7 | apply s8 | apply w4 | apply z9 | apply w5)) | ((first | apply w6 | apply z6 | apply z0 | apply p5 | apply y0 | apply z7)))
  rename_i b1 bm bp bt bc
  apply j9 (σ := Nat) (Fs := fun i => [(37, .int .i64 i), (36, .int .i64 p.ms.length), (35, .slice a1 p.ms.length c1), (4, ptr bc), (1, ptr b1)])
    (Ls := fun i => ⟨bc, Ce [.map (some bm), .map (some bp), .map (some bt)] 127, true⟩ :: ⟨bm, MO (MM kI kI (Plt.zf5 (p.ms.take i))), true⟩ :: ⟨bp, MO (MM kI kI []), true⟩ :: ⟨bt, MO (MM kP vB (TS [])), true⟩ :: ⟨b1, Ce [.slice a1 p.ms.length c1, .slice a2 p.items.length c2, .slice a3 p.passes.length c3] 26, true⟩ :: [])
    (I := fun i => i ≤ p.ms.length ∧ ((p.ms.take i).map Plt.zb6.id).Nodup ∧ Plt.zf8 [] 0 p.ms = Plt.zf8 ((p.ms.take i).map Plt.zb6.id) i (p.ms.drop i)) (μ := fun i => p.ms.length - i) (s0 := 0)
  · exact ⟨Nat.zero_le _, by simp, by simp⟩
  · exact fS_
  · exact hS_
  rintro i ⟨hi, hnd, hw0⟩
  by_cases hlt : i < p.ms.length
  · obtain ⟨d, hd⟩ : ∃ d, ds[i]? = some d := ⟨_, List.getElem?_eq_getElem (by omega)⟩
    obtain ⟨m, hx⟩ : ∃ m, p.ms[i]? = some m := ⟨_, List.getElem?_eq_getElem hlt⟩
    have hmv := hmach i d m hd hx
    obtain ⟨b, off, cc, e, fz, rfl, hk, hpt⟩ := hop1 (by omega)
    obtain ⟨id, sw, ra, ⟨x1, k1, z1⟩, ⟨x2, k2, z2⟩⟩ := d
    have g1 : ∀ j u, ([.int .i64 id, .int .i64 sw, .int .i64 ra, .slice x1 k1 z1, .slice x2 k2 z2] : List Value)[j]? = some u → cc[off + i * 5 + j]? = some u := hpt.get hd
    have hk1 : k1 = m.caps.length := by
      obtain ⟨_, _, e, _, _⟩ := hmv.caps.open
      simp only [sdV] at e
      cases e; rfl
    have hid := hmv.id
    dsimp only at hid
    rw [drop_at hx, Plt.zf8] at hw0
    have esn := yq7 hx
    have eme : (p.ms.take (i + 1)).map Plt.zb6.id = (p.ms.take i).map Plt.zb6.id ++ [id] := by rw [take_snoc hx, hid]; simp
    have hkeys := zh5 (p.ms.take i)
    have hkn : ((Plt.zf5 (p.ms.take i)).map Prod.fst).Nodup := by rw [hkeys]; exact hnd
    subst hk1
    by_cases hin : id ∈ (p.ms.take i).map Plt.zb6.id
    · rw [if_neg (fun h => h.1 (hid ▸ hin))] at hw0
      rw [em i hw0]
      obtain ⟨n, ho⟩ := yD0 hin
      as_aux_lemma =>
        repeat' (first | (apply v8; exact rfl; exact dT_) | ((apply zr0 (κ := kI) (ν := kI) (k := id)); infer_instance; infer_instance; exact rfl; exact rfl; exact kN_; assumption; assumption; exact rfl) | ((first | apply w9 | apply y8 | apply x8 | apply p4); exact rfl; exact rfl) | (apply w7; first | refine u9 (h := ?_) | refine y9 (h := ?_) | refine w8 (h := ?_) | refine q6 (h := ?_) | refine q0 (h := ?_)) | ((first | apply p3 | apply o8 | apply p0); exact rfl; exact rfl; exact rfl) | (apply n8; exact rfl; exact tT_; exact rfl; exact rfl) | ((first | apply o7 | apply c8); exact rfl; intro _) | (apply q7; first | refine q8 (h := ?_) | refine q9 (h := ?_)) | (apply m8; infer_instance; infer_instance; exact rfl; exact rfl; (first | exact rfl | omega); exact rfl; (first | assumption | omega | decide)) | (apply za5; exact rfl; exact gG_; exact rfl) | ((first | apply s9 | apply x9 | apply z8 | apply s7 | apply s8 | apply w4 | apply z9 | apply w5)) | (apply v8; exact rfl; exact tT_) | ((first | apply w6 | apply z6 | apply z0 | apply p5 | apply y0 | apply z7)))
        apply p8; apply zf9 Try.results14; exact rV_; exact rV_; intro w' hw
        exact ⟨rfl, hw.below (by simp)⟩
    have ho := yw5 hin
    cases hrm : decide (Plt.zi1 m) with
    | false =>
      rw [if_neg (fun h => of_decide_eq_false hrm h.2)] at hw0
      rw [em i hw0]
      as_aux_lemma =>
        repeat' (first | (apply v8; exact rfl; exact dT_) | ((apply zs1 (κ := kI) (ν := kI) (k := id)); infer_instance; infer_instance; infer_instance; exact rfl; exact rfl; exact kN_; assumption; exact rfl) | ((first | ((apply t8 (f := 35)); exact rfl) | ((apply t9 (f := 35)); exact rfl; kernel_rfl; exact rfl; exact sJ_)); exact eV_; exact (fun w hw => yf3 hrm w (hmv.keep hw (by exact aO_)))) | ((first | apply w9 | apply y8 | apply x8 | apply p4); exact rfl; exact rfl) | (apply w7; first | refine u9 (h := ?_) | refine y9 (h := ?_) | refine w8 (h := ?_) | refine q6 (h := ?_) | refine q0 (h := ?_)) | ((first | apply p3 | apply o8 | apply p0); exact rfl; exact rfl; exact rfl) | (apply zd5; exact rfl; exact rfl) | (apply p9; exact rfl; exact fF_; exact rfl; exact rfl) | ((first | apply o7 | apply c8); exact rfl; intro _) | (apply q7; first | refine q8 (h := ?_) | refine q9 (h := ?_)) | (apply m8; infer_instance; infer_instance; exact rfl; exact rfl; (first | exact rfl | omega); exact rfl; (first | assumption | omega | decide)) | ((first | apply k9); exact rfl; exact gG_) | ((first | apply s9 | apply x9 | apply z8 | apply s7 | apply s8 | apply w4 | apply z9 | apply w5)) | (apply v8; exact rfl; exact tT_) | ((first | apply w6 | apply z6 | apply z0 | apply p5 | apply y0 | apply z7)))
        apply p8; apply zf9 Try.results14; exact rV_; exact rV_; intro w' hw
        exact ⟨rfl, hw.below (by simp)⟩
    | true =>
      rw [if_pos ⟨hid ▸ hin, of_decide_eq_true hrm⟩, ← hid] at hw0
      have hput : ze8 id (m.caps.length : Int) (Plt.zf5 (p.ms.take i)) = Plt.zf5 (p.ms.take (i + 1)) := by rw [zl4 ho, esn, hid]
      have hnx : ((p.ms.take (i + 1)).map Plt.zb6.id).Nodup := by rw [eme]; exact zl2 hnd hin
      as_aux_lemma =>
        repeat' (first | (apply v8; exact rfl; exact dT_) | ((apply zs1 (κ := kI) (ν := kI) (k := id)); infer_instance; infer_instance; infer_instance; exact rfl; exact rfl; exact kN_; assumption; exact rfl) | ((first | ((apply t8 (f := 35)); exact rfl) | ((apply t9 (f := 35)); exact rfl; kernel_rfl; exact rfl; exact sJ_)); exact eV_; exact (fun w hw => yf3 hrm w (hmv.keep hw (by exact aO_)))) | ((apply zm6 (κ := kI) (ν := kI) (k := id) (v := (m.caps.length : Int))); infer_instance; infer_instance; exact rfl; exact rfl; exact rfl; exact aT_; assumption; exact uP_) | ((first | apply w9 | apply y8 | apply x8 | apply p4); exact rfl; exact rfl) | (apply w7; first | refine u9 (h := ?_) | refine y9 (h := ?_) | refine w8 (h := ?_) | refine q6 (h := ?_) | refine q0 (h := ?_)) | ((first | apply p3 | apply o8 | apply p0); exact rfl; exact rfl; exact rfl) | (apply zd5; exact rfl; exact rfl) | (apply j0; exact rfl; exact rfl; exact rfl; (constructor <;> omega)) | (apply p9; exact rfl; exact fF_; exact rfl; exact rfl) | ((first | apply o7 | apply c8); exact rfl; intro _) | (apply q7; first | refine q8 (h := ?_) | refine q9 (h := ?_)) | (apply o9; infer_instance; exact rfl; exact rfl) | (apply m8; infer_instance; infer_instance; exact rfl; exact rfl; (first | exact rfl | omega); exact rfl; (first | assumption | omega | decide)) | ((first | apply k9); exact rfl; exact gG_) | ((first | apply s9 | apply x9 | apply z8 | apply s7 | apply s8 | apply w4 | apply z9 | apply w5)) | (apply v9; exact rfl; exact fF_) | ((first | apply w6 | apply z6 | apply z0 | apply p5 | apply y0 | apply z7)))
        refine o0 (i + 1) ⟨by omega, hnx, by rw [eme]; exact hw0⟩ (by omega) ?_ ?_
        · exact fS_
        · (try dsimp only); rw [← hput]; exact hS_
  obtain rfl : i = p.ms.length := by omega
  rw [List.drop_length, Plt.zf8] at hw0
  rw [List.take_length] at hnd ⊢
  have hmk : ((Plt.zf5 p.ms).map Prod.fst).Nodup := by rw [zh5]; exact hnd
  generalize Plt.zf5 p.ms = msl at hmk ep eo ⊢
  clear em hop1 hmach
  have ei := ei hw0
  have ep := ep hw0
  have eo := eo hw0
  clear hw0
  repeat' (first | (apply v9; exact rfl; exact dF_) | ((first | apply w9 | apply y8 | apply x8 | apply p4); exact rfl; exact rfl) | (apply w7; first | refine u9 (h := ?_) | refine y9 (h := ?_) | refine w8 (h := ?_) | refine q6 (h := ?_) | refine q0 (h := ?_)) | ((first | apply p3 | apply o8 | apply p0); exact rfl; exact rfl; exact rfl) | (apply o9; infer_instance; exact rfl; exact rfl) | (apply zm0; infer_instance; exact rfl; exact rfl; intro _) | ((first | apply s9 | apply x9 | apply z8 | apply s7 | apply s8 | apply w4 | apply z9 | apply w5)) | ((first | apply w6 | apply z6 | apply z0 | apply p5 | apply y0 | apply z7)))
  rename_i bs
  apply j9 (σ := Nat) (Fs := fun i => [(72, .int .i64 i), (71, .int .i64 p.items.length), (70, .slice a2 p.items.length c2), (9, .map (some bs)), (4, ptr bc), (1, ptr b1)])
    (Ls := fun i => ⟨bs, MO (zx9 .i64 ((p.items.take i).map Plt.Item.id)), true⟩ :: ⟨bc, Ce [.map (some bm), .map (some bp), .map (some bt)] 127, true⟩ :: ⟨bm, MO (MM kI kI msl), true⟩ :: ⟨bp, MO (MM kI kI []), true⟩ :: ⟨bt, MO (MM kP vB (TS [])), true⟩ :: ⟨b1, Ce [.slice a1 p.ms.length c1, .slice a2 p.items.length c2, .slice a3 p.passes.length c3] 26, true⟩ :: [])
    (I := fun i => i ≤ p.items.length ∧ ((p.items.take i).map Plt.Item.id).Nodup ∧ Plt.zg5 [] 0 p.items = Plt.zg5 ((p.items.take i).map Plt.Item.id) i (p.items.drop i)) (μ := fun i => p.items.length - i) (s0 := 0)
  · exact ⟨Nat.zero_le _, by simp, by simp⟩
  · exact fS_
  · exact hS_
  rintro i ⟨hi, hns, hw0⟩
  by_cases hlt : i < p.items.length
  · obtain ⟨⟨id, st, ba⟩, hx⟩ : ∃ s, p.items[i]? = some s := ⟨_, List.getElem?_eq_getElem hlt⟩
    obtain ⟨b, off, cc, e, fz, rfl, hk, hpt⟩ := hop2 (by omega)
    have g1 : ∀ j u, ([.int .i64 id, .int .i64 st, .int .i64 ba] : List Value)[j]? = some u → cc[off + i * 3 + j]? = some u := hpt.get hx
    have eme : (p.items.take (i + 1)).map Plt.Item.id = (p.items.take i).map Plt.Item.id ++ [id] := by rw [take_snoc hx]; simp
    rw [drop_at hx, Plt.zg5] at hw0
    generalize (p.items.take i).map Plt.Item.id = met at hns hw0 eme ⊢
    by_cases hok : Plt.Item.ok ⟨id, st, ba⟩ ∧ id ∉ met
    · rw [if_pos hok] at hw0
      obtain ⟨hok, hin⟩ := hok
      unfold Plt.Item.ok Plt.zB5 at hok
      dsimp only at hok
      have hnx : ((p.items.take (i + 1)).map Plt.Item.id).Nodup := by rw [eme]; exact zl2 hns hin
      as_aux_lemma =>
        repeat' (first | (apply v8; exact rfl; exact dT_) | (apply v9; exact rfl; exact dF_) | (apply p9; exact rfl; exact dF_; exact rfl; exact rfl) | (apply k9; exact rfl; exact dF_) | ((first | ((apply t8 (f := 36)); exact rfl) | ((apply t9 (f := 36)); exact rfl; kernel_rfl; exact rfl; exact sJ_)); exact eV_; exact (fun w hw => zq8 id w)) | ((first | apply w9 | apply y8 | apply x8 | apply p4); exact rfl; exact rfl) | (apply w7; first | refine u9 (h := ?_) | refine y9 (h := ?_) | refine w8 (h := ?_) | refine q6 (h := ?_) | refine q0 (h := ?_)) | ((first | apply p3 | apply o8 | apply p0); exact rfl; exact rfl; exact rfl) | (apply j0; exact rfl; exact rfl; exact rfl; (constructor <;> omega)) | ((first | apply o7 | apply c8); exact rfl; intro _) | (apply q7; first | refine q8 (h := ?_) | refine q9 (h := ?_)) | (apply zg7; refine zk5 (h := ?_)) | (apply zq1; refine zA1 (h := ?_)) | (apply m8; infer_instance; infer_instance; exact rfl; exact rfl; (first | exact rfl | omega); exact rfl; (first | assumption | omega | decide)) | ((first | apply s9 | apply x9 | apply z8 | apply s7 | apply s8 | apply w4 | apply z9 | apply w5)) | ((first | apply w6 | apply z6 | apply z0 | apply p5 | apply y0 | apply z7)))
        refine o0 (i + 1) ⟨by omega, hnx, by rw [eme]; exact hw0⟩ (by omega) ?_ ?_
        · exact fS_
        · simp only [eme]; exact hS_
    · rw [if_neg hok] at hw0
      rw [ei i hw0]
      unfold Plt.Item.ok Plt.zB5 at hok
      dsimp only at hok
      by_cases hin : id ∈ met
      · as_aux_lemma =>
          repeat' (first | ((first | ((apply t8 (f := 36)); exact rfl) | ((apply t9 (f := 36)); exact rfl; kernel_rfl; exact rfl; exact sJ_)); exact eV_; exact (fun w hw => zq8 id w)) | ((first | apply w9 | apply y8 | apply x8 | apply p4); exact rfl; exact rfl) | (apply w7; first | refine u9 (h := ?_) | refine y9 (h := ?_) | refine w8 (h := ?_) | refine q6 (h := ?_) | refine q0 (h := ?_)) | ((first | apply p3 | apply o8 | apply p0); exact rfl; exact rfl; exact rfl) | (apply n8; exact rfl; exact tT_; exact rfl; exact rfl) | (apply p9; exact rfl; exact fF_; exact rfl; exact rfl) | ((first | apply o7 | apply c8); exact rfl; intro _) | (apply q7; first | refine q8 (h := ?_) | refine q9 (h := ?_)) | (apply zg7; refine zk5 (h := ?_)) | (apply m8; infer_instance; infer_instance; exact rfl; exact rfl; (first | exact rfl | omega); exact rfl; (first | assumption | omega | decide)) | ((first | apply k9); exact rfl; exact gG_) | (apply za5; exact rfl; exact gG_; exact rfl) | ((first | apply s9 | apply x9 | apply z8 | apply s7 | apply s8 | apply w4 | apply z9 | apply w5)) | (apply v8; exact rfl; exact tT_) | ((first | apply w6 | apply z6 | apply z0 | apply p5 | apply y0 | apply z7)) | (apply zd3; exact rfl; intro hcond; rotate_left; intro hcond; rotate_left))
          all_goals first
            | (exfalso; omega)
            | (apply p8; apply zf9 Try.results14; exact rV_; exact rV_; intro w' hw; exact ⟨rfl, hw.below (by simp)⟩)
      · have hok' : ¬ ((1 ≤ id ∧ id ≤ 999999) ∧ 1 ≤ ba ∧ ba ≤ 100) := fun h => hok ⟨h, hin⟩
        as_aux_lemma =>
          repeat' (first | ((first | ((apply t8 (f := 36)); exact rfl) | ((apply t9 (f := 36)); exact rfl; kernel_rfl; exact rfl; exact sJ_)); exact eV_; exact (fun w hw => zq8 id w)) | ((first | apply w9 | apply y8 | apply x8 | apply p4); exact rfl; exact rfl) | (apply w7; first | refine u9 (h := ?_) | refine y9 (h := ?_) | refine w8 (h := ?_) | refine q6 (h := ?_) | refine q0 (h := ?_)) | ((first | apply p3 | apply o8 | apply p0); exact rfl; exact rfl; exact rfl) | (apply n8; exact rfl; exact tT_; exact rfl; exact rfl) | (apply p9; exact rfl; exact fF_; exact rfl; exact rfl) | ((first | apply o7 | apply c8); exact rfl; intro _) | (apply q7; first | refine q8 (h := ?_) | refine q9 (h := ?_)) | (apply zg7; refine zk5 (h := ?_)) | (apply m8; infer_instance; infer_instance; exact rfl; exact rfl; (first | exact rfl | omega); exact rfl; (first | assumption | omega | decide)) | ((first | apply k9); exact rfl; exact gG_) | (apply za5; exact rfl; exact gG_; exact rfl) | ((first | apply s9 | apply x9 | apply z8 | apply s7 | apply s8 | apply w4 | apply z9 | apply w5)) | (apply v8; exact rfl; exact tT_) | ((first | apply w6 | apply z6 | apply z0 | apply p5 | apply y0 | apply z7)) | (apply zd3; exact rfl; intro hcond; rotate_left; intro hcond; rotate_left))
          all_goals first
            | (exfalso; omega)
            | (apply p8; apply zf9 Try.results14; exact rV_; exact rV_; intro w' hw; exact ⟨rfl, hw.below (by simp)⟩)
  obtain rfl : i = p.items.length := by omega
  rw [List.drop_length, Plt.zg5] at hw0
  have ep := ep hw0
  have eo := eo hw0
  clear hw0 ei hop2
  repeat' (first | (apply v9; exact rfl; exact dF_) | ((first | apply w9 | apply y8 | apply x8 | apply p4); exact rfl; exact rfl) | (apply w7; first | refine u9 (h := ?_) | refine y9 (h := ?_) | refine w8 (h := ?_) | refine q6 (h := ?_) | refine q0 (h := ?_)) | ((first | apply p3 | apply o8 | apply p0); exact rfl; exact rfl; exact rfl) | (apply o9; infer_instance; exact rfl; exact rfl) | ((first | apply s9 | apply x9 | apply z8 | apply s7 | apply s8 | apply w4 | apply z9 | apply w5)) | ((first | apply w6 | apply z6 | apply z0 | apply p5 | apply y0 | apply z7)))
  apply j9 (σ := Nat) (Fs := fun i => [(105, .int .i64 i), (104, .int .i64 p.passes.length), (103, .slice a3 p.passes.length c3), (4, ptr bc), (1, ptr b1)])
    (Ls := fun i => chk bc bm bp bt msl (psF msl (p.passes.take i)) (tkF (p.passes.take i)) ++ (⟨b1, Ce [.slice a1 p.ms.length c1, .slice a2 p.items.length c2, .slice a3 p.passes.length c3] 26, true⟩ :: []))
    (I := fun i => (i ≤ p.passes.length ∧ ((psF msl (p.passes.take i)).map Prod.fst).Nodup ∧ (tkF (p.passes.take i)).Nodup) ∧ Plt.zf7 msl [] [] 0 p.passes = Plt.zf7 msl (psF msl (p.passes.take i)) (tkF (p.passes.take i)) i (p.passes.drop i)) (μ := fun i => p.passes.length - i) (s0 := 0)
  · exact ⟨⟨Nat.zero_le _, by simp [psF], by simp [tkF]⟩, by simp [psF, tkF]⟩
  · exact fS_
  · simp only [List.take_zero, psF, tkF, List.map_nil, List.flatMap_nil]; unfold chk; simp only [List.cons_append, List.nil_append]; exact hS_
  rintro i ⟨⟨hi, hpn, htn⟩, hw0⟩
  by_cases hlt : i < p.passes.length
  · obtain ⟨d, hd⟩ : ∃ d, ys[i]? = some d := ⟨_, List.getElem?_eq_getElem (by omega)⟩
    obtain ⟨y, hx⟩ : ∃ y, p.passes[i]? = some y := ⟨_, List.getElem?_eq_getElem hlt⟩
    have hpv := hpass i d y hd hx
    obtain ⟨b, off, cc, e, fz, rfl, hk, hpt⟩ := hop3 (by omega)
    obtain ⟨id, ma, re, ⟨x1, k1, z1⟩, ⟨x2, k2, z2⟩, ⟨x3, k3, z3⟩⟩ := d
    have g1 : ∀ j u, ([.int .i64 id, .int .i64 ma, .int .i64 re, .slice x1 k1 z1, .slice x2 k2 z2, .slice x3 k3 z3] : List Value)[j]? = some u → cc[off + i * 6 + j]? = some u := hpt.get hd
    obtain ⟨e1, e2⟩ : id = y.id ∧ ma = y.mach := ⟨hpv.id, hpv.mach⟩
    rw [drop_at hx, Plt.zf7] at hw0
    have esn := zl3 (msl := msl) hx
    have ets := zi7 hx
    subst e1 e2
    generalize hpsi : psF msl (p.passes.take i) = ps at hpn hw0 esn ⊢
    generalize htki : tkF (p.passes.take i) = tk at htn hw0 ets ⊢
    have oC : ∀ x ∈ chk bc bm bp bt msl ps tk, x.own = true := zY8
    cases hbb : decide (Plt.zh1 msl ps tk y) with
    | true =>
      have hok := of_decide_eq_true hbb
      rw [if_pos hok] at hw0
      obtain ⟨n, ho⟩ := Option.isSome_iff_exists.1 hok.1.1.2
      have hnone := hok.1.1.1
      rw [ho, Option.getD_some] at hw0 esn
      have hput : ze8 y.id n ps = psF msl (p.passes.take (i + 1)) := by rw [zl4 hnone, esn]
      have hpn' : ((psF msl (p.passes.take (i + 1))).map Prod.fst).Nodup := by rw [← hput]; exact zg8 hpn
      as_aux_lemma =>
        repeat' (first | (apply v8; exact rfl; exact dT_) | ((apply zt6 (κ := kI) (ν := kI) (k := y.mach) (v := n)); infer_instance; infer_instance; exact rfl; exact rfl; exact kN_; assumption; assumption; exact rfl) | ((apply zm6 (κ := kI) (ν := kI) (k := y.id) (v := n)); infer_instance; infer_instance; exact rfl; exact rfl; exact rfl; exact aT_; assumption; exact uP_) | ((apply zo6 (f := 37) (G := chk bc bm bp bt msl ps tk) (Φ := fun v G' => v = .bool true ∧ ∃ tk', G' = chk bc bm bp bt msl ps tk' ∧ tk'.Nodup ∧ (Plt.zh1 msl ps tk y → tk' = tk ++ y.src))); exact rfl; exact rfl; exact eV_; exact rL_; (exact fun w hw => by rw [Array.append_empty]; exact yo3 hbb (show AO _ by exact aO_) hw hpv hmk hpn htn); rintro v G' ⟨rfl, tk', rfl, htn', hok'⟩; (have e_ := hok' hok; subst e_); unfold chk; simp only [List.cons_append, List.nil_append]) | ((first | apply w9 | apply y8 | apply x8 | apply p4); exact rfl; exact rfl) | (apply w7; first | refine u9 (h := ?_) | refine y9 (h := ?_) | refine w8 (h := ?_) | refine q6 (h := ?_) | refine q0 (h := ?_)) | ((first | apply p3 | apply o8 | apply p0); exact rfl; exact rfl; exact rfl) | (apply zd5; exact rfl; exact rfl) | (apply j0; exact rfl; exact rfl; exact rfl; (constructor <;> omega)) | ((first | apply o7 | apply c8); exact rfl; intro _) | (apply q7; first | refine q8 (h := ?_) | refine q9 (h := ?_)) | (apply m8; infer_instance; infer_instance; exact rfl; exact rfl; (first | exact rfl | omega); exact rfl; (first | assumption | omega | decide)) | ((first | apply s9 | apply x9 | apply z8 | apply s7 | apply s8 | apply w4 | apply z9 | apply w5)) | (apply v9; exact rfl; exact fF_) | ((first | apply w6 | apply z6 | apply z0 | apply p5 | apply y0 | apply z7)))
        refine o0 (i + 1) ⟨⟨by omega, hpn', by rw [ets]; exact htn'⟩, by rw [esn, ets]; exact hw0⟩ (by omega) ?_ ?_
        · exact fS_
        · (try dsimp only); rw [← hput, ets]; (try unfold chk); (try simp only [List.cons_append, List.nil_append]); exact hS_
    | false =>
      have hok := of_decide_eq_false hbb
      rw [if_neg hok] at hw0
      rw [ep i hw0]
      as_aux_lemma =>
        repeat' (first | (apply v8; exact rfl; exact dT_) | ((apply zo6 (f := 37) (G := chk bc bm bp bt msl ps tk) (Φ := fun v G' => v = .bool false ∧ ∃ tk', G' = chk bc bm bp bt msl ps tk' ∧ tk'.Nodup ∧ (Plt.zh1 msl ps tk y → tk' = tk ++ y.src))); exact rfl; exact rfl; exact eV_; exact rL_; (exact fun w hw => by rw [Array.append_empty]; exact yo3 hbb (show AO _ by exact aO_) hw hpv hmk hpn htn); rintro v G' ⟨rfl, tk', rfl, htn', hok'⟩; have oC2 := zY8 (bc := bc) (bm := bm) (bp := bp) (bt := bt) (msl := msl) (ps := ps) (tk := tk')) | ((first | apply w9 | apply y8 | apply x8 | apply p4); exact rfl; exact rfl) | (apply w7; first | refine u9 (h := ?_) | refine y9 (h := ?_) | refine w8 (h := ?_) | refine q6 (h := ?_) | refine q0 (h := ?_)) | ((first | apply p3 | apply o8 | apply p0); exact rfl; exact rfl; exact rfl) | (apply zd5; exact rfl; exact rfl) | ((first | apply o7 | apply c8); exact rfl; intro _) | (apply q7; first | refine q8 (h := ?_) | refine q9 (h := ?_)) | (apply m8; infer_instance; infer_instance; exact rfl; exact rfl; (first | exact rfl | omega); exact rfl; (first | assumption | omega | decide)) | ((first | apply s9 | apply x9 | apply z8 | apply s7 | apply s8 | apply w4 | apply z9 | apply w5)) | ((first | apply w6 | apply z6 | apply z0 | apply p5 | apply y0 | apply z7)))
        apply p8; apply zf9 Try.results14; exact rV_; exact rV_; intro w' hw
        exact ⟨rfl, hw.below (show AO _ from by exact aO_)⟩
  obtain rfl : i = p.passes.length := by omega
  rw [List.drop_length, Plt.zf7] at hw0
  rw [eo hw0]
  have oC' : ∀ x ∈ chk bc bm bp bt msl (psF msl (p.passes.take p.passes.length)) (tkF (p.passes.take p.passes.length)), x.own = true := zY8
  as_aux_lemma =>
    repeat' (first | (apply v9; exact rfl; exact dF_) | ((first | apply w9 | apply y8 | apply x8 | apply p4); exact rfl; exact rfl) | ((first | apply p3 | apply o8 | apply p0); exact rfl; exact rfl; exact rfl) | ((first | apply s9 | apply x9 | apply z8 | apply s7 | apply s8 | apply w4 | apply z9 | apply w5)) | ((first | apply w6 | apply z6 | apply z0 | apply p5 | apply y0 | apply z7)))
    apply p8; apply zf9 Try.results14; exact rV_; exact rV_; intro w' hw
    exact ⟨rfl, hw.below (show AO _ from by exact aO_)⟩
theorem zS8 {q : PlD} {p : Plt.g8} {i : Nat} {k : Int} (he : Plt.zc6 p = (i, k)) (w : World) (h : PlV w q p) : Calls Try.prog 14 #[plV q] w fun e w' => e = .returned (.tuple #[.int .i64 i, .int .i64 k]) ∧ Below w.heap.size w w' := by
  have := yh4 w h; rw [he] at this; exact this
end Go.Proofs.Ytdahckhlfldkkaa
