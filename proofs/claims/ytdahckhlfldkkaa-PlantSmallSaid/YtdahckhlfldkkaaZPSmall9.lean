/- A part of the proofs of this seat: a small logic of walks, plain laws, and what some of the program's functions compute, shown by walks through their code. Conditions: the hypotheses that each theorem names. -/
import Derived.Test.YtdahckhlfldkkaaZPSmall3
import Derived.Test.YtdahckhlfldkkaaZPSmall8
import Derived.Test.YtdahckhlfldkkaaZPSmall4
set_option linter.unusedSimpArgs false
set_option linter.unusedVariables false
set_option linter.unusedSectionVars false
namespace Go.Sx.Plt
def zu2 (t : Int) : g8 := ⟨[⟨1, 0, 2, [5, 5], [⟨0, 1⟩, ⟨10, t⟩]⟩], [⟨1, 7, 1⟩, ⟨2, 6, 1⟩, ⟨3, 5, 1⟩, ⟨4, 7, 1⟩, ⟨5, 6, 1⟩],
  [⟨3, 1, 0, [(0, 1)], [⟨5, 0⟩, ⟨6, 1⟩, ⟨7, 0⟩], []⟩, ⟨4, 1, 0, [(3, 0), (3, 1)], [⟨5, 0⟩, ⟨6, 0⟩, ⟨7, 1⟩], []⟩]⟩
theorem zs9 : zc6 (zu2 20) = (0, 0) := by decide +kernel
theorem zP7 : zc6 (zu2 14) = (0, 0) := by decide +kernel
theorem yB3 : zk6 (zu2 20) 5 11 = ((1, 0, 1), 0) := by decide +kernel
theorem yB4 : zk6 (zu2 20) 5 12 = ((2, 3, 1), 0) := by decide +kernel
theorem yB5 : zk6 (zu2 20) 5 14 = ((2, 3, 1), 0) := by decide +kernel
theorem yB6 : zk6 (zu2 20) 5 15 = ((2, 4, 0), 0) := by decide +kernel
theorem yI3 : zk6 (zu2 14) 5 99 = ((2, 3, 1), 0) := by decide +kernel
theorem yB1 : ∃ r, (za2 (zu2 20))[0]? = some r ∧ r.start = 0 ∧ r.fin = 12 ∧ r.pass = 3 ∧ r.slices = [(0, 1), (10, 12)] ∧ r.res.stackers = [[1, 3, 4], [2, 5]] := ⟨(za2 (zu2 20)).headD ⟨0, 0, 0, [], [], Srt.M.new 0 0⟩, by kernel_rfl, by kernel_rfl, by kernel_rfl, by kernel_rfl, by kernel_rfl, by kernel_rfl⟩
theorem yB2 : ∃ r, (za2 (zu2 20))[1]? = some r ∧ r.start = 12 ∧ r.fin = 15 ∧ r.items = [1, 3, 4, 2, 5] ∧ r.res.stackers = [[3, 2, 5], [1, 4]] := ⟨(za2 (zu2 20)).tail.headD ⟨0, 0, 0, [], [], Srt.M.new 0 0⟩, by kernel_rfl, by kernel_rfl, by kernel_rfl, by kernel_rfl, by kernel_rfl⟩
theorem yA9 : ∃ r, (za2 (zu2 14))[0]? = some r ∧ r.fin = 12 := ⟨(za2 (zu2 14)).headD ⟨0, 0, 0, [], [], Srt.M.new 0 0⟩, by kernel_rfl, by kernel_rfl⟩
theorem yB0 : ∃ r, (za2 (zu2 14))[1]? = some r ∧ r.start = -1 ∧ r.fin = -1 ∧ r.items = [] := ⟨(za2 (zu2 14)).tail.headD ⟨0, 0, 0, [], [], Srt.M.new 0 0⟩, by kernel_rfl, by kernel_rfl, by kernel_rfl, by kernel_rfl⟩
end Go.Sx.Plt
namespace Go.Proofs.Ytdahckhlfldkkaa
open Go Go.Sx Go.RowKit
attribute [local irreducible] WL WC WQ WR WB WF QB St Exit.then Exit.inBlock Exit.noGoto bodyPost roundPost zc1 YR RG BM Calls B zc7 ze3
def exQ (b1 b2 b3 b4 b5 b6 b7 b8 b9 : Nat) : PlD := ⟨(some ⟨b3, 0, none⟩, 1, 1), (some ⟨b4, 0, none⟩, 5, 5), (some ⟨b9, 0, none⟩, 2, 2),
  [⟨1, 0, 2, (some ⟨b1, 0, none⟩, 2, 2), (some ⟨b2, 0, none⟩, 2, 2)⟩], [⟨3, 1, 0, (some ⟨b5, 0, none⟩, 1, 1), (some ⟨b6, 0, none⟩, 3, 3), nsd⟩, ⟨4, 1, 0, (some ⟨b7, 0, none⟩, 2, 2), (some ⟨b8, 0, none⟩, 3, 3), nsd⟩]⟩
def exN (b1 b2 b3 b4 b5 b6 b7 b8 b9 : Nat) (t : Int) : List Ent := [⟨b9, Ce [.int .i64 3, .int .i64 1, .int .i64 0, slc b5 1, slc b6 3, .slice none 0 0, .int .i64 4, .int .i64 1, .int .i64 0, slc b7 2, slc b8 3, .slice none 0 0] 49, true⟩, ⟨b8, Ce [.int .i64 5, .int .i64 0, .int .i64 6, .int .i64 0, .int .i64 7, .int .i64 1] 98, true⟩, ⟨b7, Ce [.int .i64 3, .int .i64 0, .int .i64 3, .int .i64 1] 95, true⟩, ⟨b6, Ce [.int .i64 5, .int .i64 0, .int .i64 6, .int .i64 1, .int .i64 7, .int .i64 0] 98, true⟩, ⟨b5, Ce [.int .i64 0, .int .i64 1] 95, true⟩, ⟨b4, Ce [.int .i64 1, .int .i64 7, .int .i64 1, .int .i64 2, .int .i64 6, .int .i64 1, .int .i64 3, .int .i64 5, .int .i64 1, .int .i64 4, .int .i64 7, .int .i64 1, .int .i64 5, .int .i64 6, .int .i64 1] 88, true⟩, ⟨b3, Ce [.int .i64 1, .int .i64 0, .int .i64 2, slc b1 2, slc b2 2] 67, true⟩, ⟨b2, Ce [.int .i64 0, .int .i64 1, .int .i64 10, .int .i64 t] 81, true⟩, ⟨b1, Ce [.int .i64 5, .int .i64 5] 3, true⟩]
theorem yB8 {b1 b2 b3 b4 b5 b6 b7 b8 b9 : Nat} {t : Int} : ∀ x ∈ exN b1 b2 b3 b4 b5 b6 b7 b8 b9 t, x.own = true := by simp [exN]
theorem zF9 {b1 b2 b3 b4 b5 b6 b7 b8 b9 : Nat} {t : Int} : Shw (exN b1 b2 b3 b4 b5 b6 b7 b8 b9 t) (fun w => PlV w (exQ b1 b2 b3 b4 b5 b6 b7 b8 b9) (Plt.zu2 t)) := fun w0 w L L0 hr hw => by
  have hw2 : Rep w0 w (exN b1 b2 b3 b4 b5 b6 b7 b8 b9 t ++ L0) := hw.perm hr
  unfold exN at hw2
  simp only [List.cons_append, List.nil_append] at hw2
  refine ⟨SV.lit (n := 1) [(⟨1, 0, 2, (some ⟨b1, 0, none⟩, 2, 2), (some ⟨b2, 0, none⟩, 2, 2)⟩ : MD)] zw4 hw2 (by exact aT_) rfl rfl (by decide), SV.lit (n := 5) (Plt.zu2 t).items zq4 hw2 (by exact aT_) rfl rfl (by decide), SV.lit (n := 2) [(⟨3, 1, 0, (some ⟨b5, 0, none⟩, 1, 1), (some ⟨b6, 0, none⟩, 3, 3), nsd⟩ : PD), ⟨4, 1, 0, (some ⟨b7, 0, none⟩, 2, 2), (some ⟨b8, 0, none⟩, 3, 3), nsd⟩] zw5 hw2 (by exact aT_) rfl rfl (by decide), rfl, rfl, fun i d m hd hm => ?_, fun i d y hd hy => ?_⟩
  · rcases i with _ | i
    · simp [exQ] at hd
      simp [Plt.zu2] at hm
      subst hd hm
      exact ⟨rfl, rfl, rfl, SV.lit (n := 2) [5, 5] j8 hw2 (by exact aT_) rfl rfl (by decide), SV.lit (n := 2) [⟨0, 1⟩, ⟨10, t⟩] zw6 hw2 (by exact aT_) rfl rfl (by decide)⟩
    · simp [exQ] at hd
  · rcases i with _ | _ | i
    · simp [exQ] at hd
      simp [Plt.zu2] at hy
      subst hd hy
      exact ⟨rfl, rfl, rfl, SV.lit (n := 1) [((0 : Int), (1 : Int))] zn3 hw2 (by exact aT_) rfl rfl (by decide), SV.lit (n := 3) [⟨5, 0⟩, ⟨6, 1⟩, ⟨7, 0⟩] zn2 hw2 (by exact aT_) rfl rfl (by decide), SV.nil⟩
    · simp [exQ] at hd
      simp [Plt.zu2] at hy
      subst hd hy
      exact ⟨rfl, rfl, rfl, SV.lit (n := 2) [((3 : Int), (0 : Int)), (3, 1)] zn3 hw2 (by exact aT_) rfl rfl (by decide), SV.lit (n := 3) [⟨5, 0⟩, ⟨6, 0⟩, ⟨7, 1⟩] zn2 hw2 (by exact aT_) rfl rfl (by decide), SV.nil⟩
    · simp [exQ] at hd
theorem zE4 (w : World) : Calls Try.prog 11 #[] w fun e w' => ∃ v N, e = .returned v ∧ (∃ b1 b2 b3 b4 b5 b6 b7 b8 b9, v = plV (exQ b1 b2 b3 b4 b5 b6 b7 b8 b9) ∧ N = exN b1 b2 b3 b4 b5 b6 b7 b8 b9 20) ∧ Rep w w' N ∧ ∀ x ∈ N, x.own = true := by
  refine zP8 Try.func11 rfl Try.ntmps11 rfl (Rep.start w) ?_
  repeat' (first | (apply o7; exact rfl; intro _) | (apply q7; first | refine q8 (h := ?_) | refine q9 (h := ?_)) | (apply g7; first | refine a8 (h := ?_)) | (apply m9; refine l9 (h := fun _ => ?_)) | ((first | apply s9 | apply x9 | apply z8 | apply s7 | apply s8 | apply w4 | apply z9 | apply w5)) | ((first | apply w6 | apply z6 | apply z0 | apply p5 | apply y0 | apply z7)))
  apply p8; apply zb0 Try.results11; exact rV_; intro w' hw
  rename_i b0 b1 b2 b3 b4 b5 b6 b7 b8 b9
  exact ⟨_, exN b1 b2 b3 b4 b5 b6 b7 b8 b9 20, rfl, ⟨b1, b2, b3, b4, b5, b6, b7, b8, b9, rfl, rfl⟩, hw.sub (by unfold exN; exact hS_), yB8⟩
theorem zv9 {q : PlD} {p : Plt.g8} {x t kd ps nu : Int} (hc : Plt.zc6 p = (0, 0)) (he : Plt.zk6 p x t = ((kd, ps, nu), 0)) (w : World) (h : PlV w q p) : Calls Try.prog 20 #[plV q, .int .i64 x, .int .i64 t, .agg #[.int .u8 kd, .int .i64 ps, .int .i64 nu]] w fun e w' => e = .returned (.bool true) ∧ Below w.heap.size w w' := by
  obtain ⟨⟨a1, n1, c1⟩, ⟨a2, n2, c2⟩, ⟨a3, n3, c3⟩, ds, ys⟩ := q
  refine yd2 Try.func20 rfl Try.ntmps20 rfl (Rep.start w) ?_
  repeat' (first | ((first | ((apply t8 (f := 9)); exact rfl) | ((apply t9 (f := 9)); exact rfl; kernel_rfl; exact rfl; exact sJ_)); exact eV_; exact (fun w hw => zN1 (Plt.zD3 hc) he w (h.keep hw (by exact aO_)))) | ((first | apply w9 | apply y8); exact rfl; exact rfl) | (apply w7; first | refine u9 (h := ?_) | refine y9 (h := ?_) | refine w8 (h := ?_) | refine q6 (h := ?_) | refine q0 (h := ?_)) | ((first | apply l0 | apply p0); exact rfl; exact rfl; exact rfl) | (apply zT5; refine yz8 (h := ?_)) | (apply n8; exact rfl; exact tT_; exact rfl; exact rfl) | (apply o7; exact rfl; intro _) | (apply zc5; exact rfl; exact rfl; exact rfl; intro _) | (apply q7; first | refine q8 (h := ?_) | refine q9 (h := ?_)) | ((first | apply k9); exact rfl; exact gG_) | ((first | apply s9 | apply x9 | apply z8 | apply s7 | apply s8 | apply w4 | apply z9 | apply w5)) | ((first | apply w6 | apply z6 | apply z0 | apply p5 | apply y0 | apply z7)))
  apply p8; apply zb0 Try.results20; exact rV_; intro w' hw
  refine ⟨?_, hw.below (by simp)⟩
  simp
end Go.Proofs.Ytdahckhlfldkkaa
namespace Go.Proofs.Ytdahckhlfldkkaa
open Go Go.Sx Go.RowKit
attribute [local irreducible] WL WC WQ WR WB WF QB St Exit.then Exit.inBlock Exit.noGoto bodyPost roundPost zc1 YR RG BM Calls B zc7 ze3
theorem zx8 {va vb : Value} {xs ys : List Int} (he : xs = ys) (w : World) (ha : SV w 1 encI va xs) (hb : SV w 1 encI vb ys) : Calls Try.prog 18 #[va, vb] w fun e w' => e = .returned (.bool true) ∧ Below w.heap.size w w' := by
  have := zS3 w ha hb; rwa [zj0 he] at this
theorem LL.two' {α : Type} {E : TypeId} {k : Nat} {enc : α → List Value} {x y : List α} {L : List Ent} {b b' : Nat} {w0 w : World} (henc : ∀ x, (enc x).length = k) (hw : Rep w0 w L) (h1 : At L b (Ce (x.flatMap enc) E)) (h2 : At L b' (Ce (y.flatMap enc) E)) (hx : x.length ≤ 1000000) (hy : y.length ≤ 1000000) : SL w k enc [(some ⟨b, 0, none⟩, x.length, x.length), (some ⟨b', 0, none⟩, y.length, y.length)] [x, y] := by
  refine ⟨rfl, fun i s xs hs hxs => ?_⟩
  match i with
  | 0 =>
    cases hs; cases hxs
    exact SV.lit x henc hw h1 rfl rfl (show x.length ≤ _ from by omega)
  | 1 =>
    cases hs; cases hxs
    exact SV.lit y henc hw h2 rfl rfl (show y.length ≤ _ from by omega)
  | i + 2 => simp at hs
set_option maxHeartbeats 4000000 in
theorem zW2 {va vb : Value} {ss tt : List SD} {xss yss : List (List Int)} (he : xss = yss) (w : World) (ha : SV w 1 encS va ss) (hal : SL w 1 encI ss xss) (hb : SV w 1 encS vb tt) (hbl : SL w 1 encI tt yss) : Calls Try.prog 19 #[va, vb] w fun e w' => e = .returned (.bool true) ∧ Below w.heap.size w w' := by
  subst he
  obtain ⟨a1, c1, rfl, hc1, hop1⟩ := ha.open
  obtain ⟨a2, c2, rfl, hc2, hop2⟩ := hb.open
  have hl1 := hal.1
  have hl2 := hbl.1
  refine za8 Try.func19 rfl Try.ntmps19 rfl (Rep.start w) ?_
  repeat' (first | ((first | apply w9 | apply y8 | apply p4); exact rfl; exact rfl) | ((first | apply p3 | apply l8); exact rfl; exact rfl; exact rfl) | (apply o9; infer_instance; exact rfl; exact rfl) | ((first | apply s9 | apply x9 | apply z8 | apply s7 | apply s8 | apply w4 | apply z9 | apply w5)) | (apply v9; exact rfl; exact fF_) | ((first | apply w6 | apply z6 | apply z0 | apply p5 | apply y0 | apply z7)))
  all_goals try (exfalso; omega)
  apply j9 (σ := Nat) (Fs := fun i => [(5, .int .i64 i), (0, .slice a1 ss.length c1), (1, .slice a2 tt.length c2)])
    (Ls := fun i => []) (I := fun i => i ≤ ss.length) (μ := fun i => ss.length - i) (s0 := 0)
  · exact Nat.zero_le _
  · exact fS_
  · exact hS_
  intro i hi
  have hi : i ≤ ss.length := hi
  by_cases hlt : i < ss.length
  · obtain ⟨⟨sa, sn, sc⟩, hx⟩ : ∃ s, ss[i]? = some s := ⟨_, List.getElem?_eq_getElem hlt⟩
    obtain ⟨⟨ta, tn, tc⟩, hy⟩ : ∃ s, tt[i]? = some s := ⟨_, List.getElem?_eq_getElem (by omega)⟩
    obtain ⟨xs, hz⟩ : ∃ s, xss[i]? = some s := ⟨_, List.getElem?_eq_getElem (by omega)⟩
    obtain ⟨b, off, cc, e, fz, rfl, hk, hp⟩ := hop1 (by omega)
    obtain ⟨b', off', cc', e', fz', rfl, hk', hp'⟩ := hop2 (by omega)
    have q1 := hp.one hx rfl
    have q2 := hp'.one hy rfl
    have v1 := hal.2 i _ _ hx hz
    have v2 := hbl.2 i _ _ hy hz
    repeat' (first | ((first | ((apply t8 (f := 18)); exact rfl) | ((apply t9 (f := 18)); exact rfl; kernel_rfl; exact rfl; exact sJ_)); exact eV_; exact (fun w hw => zx8 rfl w (v1.keep hw (by exact aO_)) (v2.keep hw (by exact aO_)))) | ((first | apply w9 | apply y8 | apply p4); exact rfl; exact rfl) | ((first | apply p3 | apply l8); exact rfl; exact rfl; exact rfl) | (apply j0; exact rfl; exact rfl; exact rfl; (constructor <;> omega)) | (apply o9; infer_instance; exact rfl; exact rfl) | ((first | apply s9 | apply x9 | apply z8 | apply s7 | apply s8 | apply w4 | apply z9 | apply w5)) | (apply v8; exact rfl; exact tT_) | (apply v9; exact rfl; exact fF_) | ((first | apply w6 | apply z6 | apply z0 | apply p5 | apply y0 | apply z7)) | ((apply p6 (id := 6) []); kernel_rfl; kernel_rfl) | (apply za6; try simp only [za9, List.cons_append, List.nil_append]) | ((first | apply i9 | apply n9); exact rfl; exact rfl) | (apply m0; first | refine k8 (h := ?_) | refine p7 (h := ?_) | refine m6 (h := ?_) | refine d8 (h := ?_) | refine d7 (h := ?_)) | (apply yo7; exact rfl; exact rfl) | (apply zc3; infer_instance; infer_instance; exact rfl; exact rfl; (first | exact rfl | omega); exact rfl; (first | assumption | omega | decide)))
    refine o0 (i + 1) (show i + 1 ≤ ss.length by omega) (show ss.length - (i + 1) < ss.length - i by omega) ?_ ?_
    · exact fS_
    · exact hS_
  repeat' (first | ((first | apply w9 | apply y8 | apply p4); exact rfl; exact rfl) | ((first | apply p3 | apply l8); exact rfl; exact rfl; exact rfl) | (apply o9; infer_instance; exact rfl; exact rfl) | ((first | apply s9 | apply x9 | apply z8 | apply s7 | apply s8 | apply w4 | apply z9 | apply w5)) | (apply v9; exact rfl; exact fF_) | ((first | apply w6 | apply z6 | apply z0 | apply p5 | apply y0 | apply z7)))
  all_goals try (exfalso; omega)
  apply p8; apply zb0 Try.results19; exact rV_; intro w' hw
  exact ⟨rfl, hw.below (by simp)⟩
end Go.Proofs.Ytdahckhlfldkkaa
namespace Go.Sx
end Go.Sx
namespace Go.Proofs.Ytdahckhlfldkkaa
open Go Go.Sx Go.RowKit
theorem RunsV.at {w : World} {a : Option Addr} {n c : Nat} {ds : List RD} {runs : List Plt.Run} {i : Nat} {r : Plt.Run} (h : RunsV w (.slice a n c) ds runs) (hr : runs[i]? = some r) : ∃ b off x1 k1 x2 k2 x3 n3 k3 x4 n4 k4 x5 k5 x6 k6 x7 n7 k7, a = some ⟨b, off, none⟩ ∧
    ds[i]? = some ⟨r.pass, r.start, r.fin, (x1, r.items.length, k1), (x2, r.slices.length, k2), (x3, n3, k3), (x4, n4, k4), (x5, r.res.over.length, k5), (x6, r.res.rej.length, k6), (x7, n7, k7)⟩ ∧ n3 = r.res.stackers.length ∧
    ∀ (j : Nat) (u : Value), ([.int .i64 r.pass, .int .i64 r.start, .int .i64 r.fin, .slice x1 r.items.length k1, .slice x2 r.slices.length k2, .slice x3 n3 k3, .slice x4 n4 k4, .slice x5 r.res.over.length k5, .slice x6 r.res.rej.length k6, .slice x7 n7 k7] : List Value)[j]? = some u →
      (zG9 ⟨r.pass, r.start, r.fin, (x1, r.items.length, k1), (x2, r.slices.length, k2), (x3, n3, k3), (x4, n4, k4), (x5, r.res.over.length, k5), (x6, r.res.rej.length, k6), (x7, n7, k7)⟩)[j]? = some u := by
  obtain ⟨hs, hl, hh⟩ := h
  obtain ⟨d, hd⟩ : ∃ d, ds[i]? = some d := ⟨_, List.getElem?_eq_getElem (by have := (List.getElem?_eq_some_iff.1 hr).1; omega)⟩
  obtain ⟨b, off, rfl⟩ := hs.ptr hd
  have hv := hh i d r hd hr
  obtain ⟨x1, k1, e1⟩ := hv.items.sd
  obtain ⟨x2, k2, e2⟩ := hv.slices.sd
  rw [Plt.zj6] at e2
  obtain ⟨ss, h3, h4⟩ := hv.stk
  obtain ⟨x3, k3, e3⟩ := h3.sd
  rw [h4.1] at e3
  obtain ⟨x5, k5, e5⟩ := hv.ov.sd
  obtain ⟨x6, k6, e6⟩ := hv.rj.sd
  obtain ⟨p, s, f, i1, i2, i3, ⟨x4, n4, k4⟩, i5, i6, ⟨x7, n7, k7⟩⟩ := d
  refine ⟨b, off, x1, k1, x2, k2, x3, _, k3, x4, n4, k4, x5, k5, x6, k6, x7, n7, k7, rfl, ?_, rfl, fun _ _ h => h⟩
  rw [hd]
  obtain rfl : p = r.pass := hv.pass
  obtain rfl : s = r.start := hv.start
  obtain rfl : f = r.fin := hv.fin
  dsimp only at e1 e2 e3 e5 e6
  rw [e1, e2, e3, e5, e6]
theorem RunV.stk' {w : World} {r : Plt.Run} {d : RD} {x3 : Option Addr} {n3 k3 : Nat} (h : RunV w d r) (hd : d.stk = (x3, n3, k3)) : ∃ ss, SV w 1 encS (.slice x3 n3 k3) ss ∧ SL w 1 encI ss r.res.stackers := by
  obtain ⟨ss, h1, h2⟩ := h.stk
  rw [hd] at h1
  exact ⟨ss, h1, h2⟩
theorem yd9 {va vb : Value} {tt : List SD} {xss yss : List (List Int)} (he : xss = yss) (w : World) (ha : ∃ ss, SV w 1 encS va ss ∧ SL w 1 encI ss xss) (hb : SV w 1 encS vb tt) (hbl : SL w 1 encI tt yss) : Calls Try.prog 19 #[va, vb] w fun e w' => e = .returned (.bool true) ∧ Below w.heap.size w w' := by
  obtain ⟨ss, h1, h2⟩ := ha
  exact zW2 he w h1 h2 hb hbl
end Go.Proofs.Ytdahckhlfldkkaa
namespace Go.Sx.Plt
def zj4 (x : Int) (l : List Int) : Int := match zn4 x l with
  | some k => (k : Int)
  | none => -1
theorem zZ4 {x : Int} {l : List Int} {i : Nat} (h : l[i]? = some x) (hb : ∀ y ∈ l.take i, y ≠ x) : zj4 x l = (i : Int) := by
  unfold zj4
  have : zn4 x l = some i := by
    induction l generalizing i with
    | nil => simp at h
    | cons a r ih =>
      rw [zn4]
      cases i with
      | zero => simp at h; rw [if_pos h]
      | succ i =>
        rw [if_neg (hb a (by simp)), ih (by simpa using h) (fun y hy => hb y (by simp [hy]))]; rfl
  rw [this]
theorem zK3 {x : Int} {l : List Int} (hb : ∀ y ∈ l, y ≠ x) : zj4 x l = -1 := by
  unfold zj4
  rw [zs4.2 fun h => hb x h rfl]
theorem zn5 (x : Int) (l : List Int) : (zj4 x l = -1 ∧ x ∉ l) ∨ ∃ i : Nat, zj4 x l = (i : Int) ∧ l[i]? = some x ∧ ∀ y ∈ l.take i, y ≠ x := by
  cases h : zn4 x l with
  | none => exact .inl ⟨by unfold zj4; rw [h], zs4.1 h⟩
  | some i =>
    refine .inr ⟨i, by unfold zj4; rw [h], ?_⟩
    induction l generalizing i with
    | nil => simp [zn4] at h
    | cons a r ih =>
      rw [zn4] at h
      split at h
      · cases h; rename_i ha; subst ha; simp
      · rename_i ha
        cases hr : zn4 x r with
        | none => rw [hr] at h; cases h
        | some k =>
          rw [hr] at h
          simp only [Option.map_some, Option.some.injEq] at h
          subst h
          obtain ⟨h1, h2⟩ := ih k hr
          refine ⟨by simpa using h1, fun y hy => ?_⟩
          rw [List.take_succ_cons, List.mem_cons] at hy
          rcases hy with rfl | hy
          · exact ha
          · exact h2 y hy
end Go.Sx.Plt
namespace Go.Proofs.Ytdahckhlfldkkaa
open Go Go.Sx Go.RowKit
attribute [local irreducible] WL WC WQ WR WB WF QB St Exit.then Exit.inBlock Exit.noGoto bodyPost roundPost zc1 YR RG BM Calls B zc7 ze3
theorem ys0 (x : Int) (w : World) : Calls Try.prog 33 #[.int .i64 x] w fun e w' => e = .returned (.bool (decide (1 ≤ x ∧ x ≤ 999999))) ∧ Below w.heap.size w w' := by
  by_cases h1 : 1 ≤ x ∧ x ≤ 999999
  · rw [decide_eq_true h1]
    refine zd2 Try.func33 rfl Try.ntmps33 rfl (Rep.start w) ?_
    repeat' (first | (apply n8; exact rfl; exact dT_; exact rfl; exact rfl) | (apply k9; exact rfl; exact dT_) | ((first | apply w9 | apply y8); exact rfl; exact rfl) | ((first | apply p3 | apply o8); exact rfl; exact rfl; exact rfl) | ((first | apply s9 | apply x9 | apply z8 | apply s7 | apply s8 | apply w4 | apply z9 | apply w5)) | ((first | apply w6 | apply z6 | apply z0 | apply p5 | apply y0 | apply z7)))
    apply p8; apply zb0 Try.results33; exact rV_; intro w' hw
    exact ⟨by rw [decide_eq_true (by omega : x < 1000000)], hw.below (by simp)⟩
  · rw [decide_eq_false h1]
    by_cases h2 : 0 < x
    · refine zd2 Try.func33 rfl Try.ntmps33 rfl (Rep.start w) ?_
      repeat' (first | (apply n8; exact rfl; exact dT_; exact rfl; exact rfl) | (apply k9; exact rfl; exact dT_) | ((first | apply w9 | apply y8); exact rfl; exact rfl) | ((first | apply p3 | apply o8); exact rfl; exact rfl; exact rfl) | ((first | apply s9 | apply x9 | apply z8 | apply s7 | apply s8 | apply w4 | apply z9 | apply w5)) | ((first | apply w6 | apply z6 | apply z0 | apply p5 | apply y0 | apply z7)))
      apply p8; apply zb0 Try.results33; exact rV_; intro w' hw
      exact ⟨by rw [decide_eq_false (by omega : ¬ x < 1000000)], hw.below (by simp)⟩
    · refine zd2 Try.func33 rfl Try.ntmps33 rfl (Rep.start w) ?_
      repeat' (first | (apply p9; exact rfl; exact dF_; exact rfl; exact rfl) | (apply za5; exact rfl; exact dF_; exact rfl) | ((first | apply w9 | apply y8); exact rfl; exact rfl) | ((first | apply p3 | apply o8); exact rfl; exact rfl; exact rfl) | ((first | apply s9 | apply x9 | apply z8 | apply s7 | apply s8 | apply w4 | apply z9 | apply w5)) | ((first | apply w6 | apply z6 | apply z0 | apply p5 | apply y0 | apply z7)))
      apply p8; apply zb0 Try.results33; exact rV_; intro w' hw
      exact ⟨rfl, hw.below (by simp)⟩
theorem zR8 {v : Value} {l : List MD} (x : Int) (w : World) (h : SV w 5 zV3 v l) : Calls Try.prog 24 #[v, .int .i64 x] w fun e w' => e = .returned (.int .i64 (Plt.zj4 x (l.map MD.id))) ∧ Below w.heap.size w w' := by
  obtain ⟨a0, c0, rfl, hc, hop⟩ := h.open
  refine za8 Try.func24 rfl Try.ntmps24 rfl (Rep.start w) ?_
  repeat' (first | ((first | apply w9 | apply y8 | apply x8); exact rfl; exact rfl) | ((first | apply s9 | apply x9 | apply z8 | apply s7 | apply s8 | apply w4 | apply z9 | apply w5)) | ((first | apply w6 | apply z6 | apply z0 | apply p5 | apply y0 | apply z7)))
  apply j9 (σ := Nat) (Fs := fun i => [(5, .int .i64 i), (0, .slice a0 l.length c0), (1, .int .i64 x)]) (Ls := fun _ => []) (I := fun i => i ≤ l.length ∧ ∀ y ∈ (l.map MD.id).take i, y ≠ x) (μ := fun i => l.length - i) (s0 := 0)
  · exact ⟨Nat.zero_le _, by simp⟩
  · exact fS_
  · exact hS_
  rintro i ⟨hi, hb⟩
  by_cases hlt : i < l.length
  · obtain ⟨d, hx⟩ : ∃ d, l[i]? = some d := ⟨_, List.getElem?_eq_getElem hlt⟩
    obtain ⟨b, off, cc, e, fz, rfl, hk, hp⟩ := hop (by omega)
    have q1 := hp.one hx rfl
    have hm : (l.map MD.id)[i]? = some (MD.id d) := by rw [List.getElem?_map, hx]; rfl
    by_cases hd : MD.id d = x
    · rw [hd] at hm
      rw [Plt.zZ4 hm hb]
      repeat' (first | (apply v8; exact rfl; exact dT_) | ((first | apply w9 | apply y8 | apply x8); exact rfl; exact rfl) | (apply za7; exact rfl; exact rfl) | (apply w7; first | refine u9 (h := ?_) | refine y9 (h := ?_) | refine w8 (h := ?_) | refine q6 (h := ?_) | refine q0 (h := ?_)) | ((first | apply p3 | apply l0); exact rfl; exact rfl; exact rfl) | (apply o9; infer_instance; exact rfl; exact rfl) | (apply m8; infer_instance; infer_instance; exact rfl; exact rfl; (first | exact rfl | omega); exact rfl; (first | assumption | omega | decide)) | ((first | apply s9 | apply x9 | apply z8 | apply s7 | apply s8 | apply w4 | apply z9 | apply w5)) | ((first | apply w6 | apply z6 | apply z0 | apply p5 | apply y0 | apply z7)))
      apply p8; apply zb0 Try.results24; exact rV_; intro w' hw
      exact ⟨rfl, hw.below (by simp)⟩
    · repeat' (first | (apply v8; exact rfl; exact dT_) | (apply v9; exact rfl; exact dF_) | ((first | apply w9 | apply y8 | apply x8); exact rfl; exact rfl) | (apply za7; exact rfl; exact rfl) | (apply w7; first | refine u9 (h := ?_) | refine y9 (h := ?_) | refine w8 (h := ?_) | refine q6 (h := ?_) | refine q0 (h := ?_)) | ((first | apply p3 | apply l0); exact rfl; exact rfl; exact rfl) | (apply j0; exact rfl; exact rfl; exact rfl; (constructor <;> omega)) | (apply o9; infer_instance; exact rfl; exact rfl) | (apply m8; infer_instance; infer_instance; exact rfl; exact rfl; (first | exact rfl | omega); exact rfl; (first | assumption | omega | decide)) | ((first | apply s9 | apply x9 | apply z8 | apply s7 | apply s8 | apply w4 | apply z9 | apply w5)) | ((first | apply w6 | apply z6 | apply z0 | apply p5 | apply y0 | apply z7)))
      refine o0 (i + 1) ⟨by omega, zh0 hm hb hd⟩ (by omega) ?_ ?_
      · exact fS_
      · exact hS_
  rw [List.take_of_length_le (by rw [List.length_map]; omega)] at hb
  rw [Plt.zK3 hb]
  repeat' (first | (apply v9; exact rfl; exact dF_) | ((first | apply w9 | apply y8 | apply x8); exact rfl; exact rfl) | ((first | apply p3 | apply l0); exact rfl; exact rfl; exact rfl) | (apply o9; infer_instance; exact rfl; exact rfl) | ((first | apply s9 | apply x9 | apply z8 | apply s7 | apply s8 | apply w4 | apply z9 | apply w5)) | ((first | apply w6 | apply z6 | apply z0 | apply p5 | apply y0 | apply z7)))
  apply p8; apply zb0 Try.results24; exact rV_; intro w' hw
  exact ⟨rfl, hw.below (by simp)⟩
theorem yf4 {v : Value} {l : List Plt.Item} (x : Int) (w : World) (h : SV w 3 zu8 v l) : Calls Try.prog 22 #[v, .int .i64 x] w fun e w' => e = .returned (.int .i64 (Plt.zj4 x (l.map Plt.Item.id))) ∧ Below w.heap.size w w' := by
  obtain ⟨a0, c0, rfl, hc, hop⟩ := h.open
  refine za8 Try.func22 rfl Try.ntmps22 rfl (Rep.start w) ?_
  repeat' (first | ((first | apply w9 | apply y8 | apply x8); exact rfl; exact rfl) | ((first | apply s9 | apply x9 | apply z8 | apply s7 | apply s8 | apply w4 | apply z9 | apply w5)) | ((first | apply w6 | apply z6 | apply z0 | apply p5 | apply y0 | apply z7)))
  apply j9 (σ := Nat) (Fs := fun i => [(5, .int .i64 i), (0, .slice a0 l.length c0), (1, .int .i64 x)]) (Ls := fun _ => []) (I := fun i => i ≤ l.length ∧ ∀ y ∈ (l.map Plt.Item.id).take i, y ≠ x) (μ := fun i => l.length - i) (s0 := 0)
  · exact ⟨Nat.zero_le _, by simp⟩
  · exact fS_
  · exact hS_
  rintro i ⟨hi, hb⟩
  by_cases hlt : i < l.length
  · obtain ⟨d, hx⟩ : ∃ d, l[i]? = some d := ⟨_, List.getElem?_eq_getElem hlt⟩
    obtain ⟨b, off, cc, e, fz, rfl, hk, hp⟩ := hop (by omega)
    have q1 := hp.one hx rfl
    have hm : (l.map Plt.Item.id)[i]? = some (Plt.Item.id d) := by rw [List.getElem?_map, hx]; rfl
    by_cases hd : Plt.Item.id d = x
    · rw [hd] at hm
      rw [Plt.zZ4 hm hb]
      repeat' (first | (apply v8; exact rfl; exact dT_) | ((first | apply w9 | apply y8 | apply x8); exact rfl; exact rfl) | (apply za7; exact rfl; exact rfl) | (apply w7; first | refine u9 (h := ?_) | refine y9 (h := ?_) | refine w8 (h := ?_) | refine q6 (h := ?_) | refine q0 (h := ?_)) | ((first | apply p3 | apply l0); exact rfl; exact rfl; exact rfl) | (apply o9; infer_instance; exact rfl; exact rfl) | (apply m8; infer_instance; infer_instance; exact rfl; exact rfl; (first | exact rfl | omega); exact rfl; (first | assumption | omega | decide)) | ((first | apply s9 | apply x9 | apply z8 | apply s7 | apply s8 | apply w4 | apply z9 | apply w5)) | ((first | apply w6 | apply z6 | apply z0 | apply p5 | apply y0 | apply z7)))
      apply p8; apply zb0 Try.results22; exact rV_; intro w' hw
      exact ⟨rfl, hw.below (by simp)⟩
    · repeat' (first | (apply v8; exact rfl; exact dT_) | (apply v9; exact rfl; exact dF_) | ((first | apply w9 | apply y8 | apply x8); exact rfl; exact rfl) | (apply za7; exact rfl; exact rfl) | (apply w7; first | refine u9 (h := ?_) | refine y9 (h := ?_) | refine w8 (h := ?_) | refine q6 (h := ?_) | refine q0 (h := ?_)) | ((first | apply p3 | apply l0); exact rfl; exact rfl; exact rfl) | (apply j0; exact rfl; exact rfl; exact rfl; (constructor <;> omega)) | (apply o9; infer_instance; exact rfl; exact rfl) | (apply m8; infer_instance; infer_instance; exact rfl; exact rfl; (first | exact rfl | omega); exact rfl; (first | assumption | omega | decide)) | ((first | apply s9 | apply x9 | apply z8 | apply s7 | apply s8 | apply w4 | apply z9 | apply w5)) | ((first | apply w6 | apply z6 | apply z0 | apply p5 | apply y0 | apply z7)))
      refine o0 (i + 1) ⟨by omega, zh0 hm hb hd⟩ (by omega) ?_ ?_
      · exact fS_
      · exact hS_
  rw [List.take_of_length_le (by rw [List.length_map]; omega)] at hb
  rw [Plt.zK3 hb]
  repeat' (first | (apply v9; exact rfl; exact dF_) | ((first | apply w9 | apply y8 | apply x8); exact rfl; exact rfl) | ((first | apply p3 | apply l0); exact rfl; exact rfl; exact rfl) | (apply o9; infer_instance; exact rfl; exact rfl) | ((first | apply s9 | apply x9 | apply z8 | apply s7 | apply s8 | apply w4 | apply z9 | apply w5)) | ((first | apply w6 | apply z6 | apply z0 | apply p5 | apply y0 | apply z7)))
  apply p8; apply zb0 Try.results22; exact rV_; intro w' hw
  exact ⟨rfl, hw.below (by simp)⟩
theorem yf5 {v : Value} {l : List PD} (x : Int) (w : World) (h : SV w 6 zV4 v l) : Calls Try.prog 49 #[v, .int .i64 x] w fun e w' => e = .returned (.int .i64 (Plt.zj4 x (l.map PD.id))) ∧ Below w.heap.size w w' := by
  obtain ⟨a0, c0, rfl, hc, hop⟩ := h.open
  refine za8 Try.func49 rfl Try.ntmps49 rfl (Rep.start w) ?_
  repeat' (first | ((first | apply w9 | apply y8 | apply x8); exact rfl; exact rfl) | ((first | apply s9 | apply x9 | apply z8 | apply s7 | apply s8 | apply w4 | apply z9 | apply w5)) | ((first | apply w6 | apply z6 | apply z0 | apply p5 | apply y0 | apply z7)))
  apply j9 (σ := Nat) (Fs := fun i => [(5, .int .i64 i), (0, .slice a0 l.length c0), (1, .int .i64 x)]) (Ls := fun _ => []) (I := fun i => i ≤ l.length ∧ ∀ y ∈ (l.map PD.id).take i, y ≠ x) (μ := fun i => l.length - i) (s0 := 0)
  · exact ⟨Nat.zero_le _, by simp⟩
  · exact fS_
  · exact hS_
  rintro i ⟨hi, hb⟩
  by_cases hlt : i < l.length
  · obtain ⟨d, hx⟩ : ∃ d, l[i]? = some d := ⟨_, List.getElem?_eq_getElem hlt⟩
    obtain ⟨b, off, cc, e, fz, rfl, hk, hp⟩ := hop (by omega)
    have q1 := hp.one hx rfl
    have hm : (l.map PD.id)[i]? = some (PD.id d) := by rw [List.getElem?_map, hx]; rfl
    by_cases hd : PD.id d = x
    · rw [hd] at hm
      rw [Plt.zZ4 hm hb]
      repeat' (first | (apply v8; exact rfl; exact dT_) | ((first | apply w9 | apply y8 | apply x8); exact rfl; exact rfl) | (apply za7; exact rfl; exact rfl) | (apply w7; first | refine u9 (h := ?_) | refine y9 (h := ?_) | refine w8 (h := ?_) | refine q6 (h := ?_) | refine q0 (h := ?_)) | ((first | apply p3 | apply l0); exact rfl; exact rfl; exact rfl) | (apply o9; infer_instance; exact rfl; exact rfl) | (apply m8; infer_instance; infer_instance; exact rfl; exact rfl; (first | exact rfl | omega); exact rfl; (first | assumption | omega | decide)) | ((first | apply s9 | apply x9 | apply z8 | apply s7 | apply s8 | apply w4 | apply z9 | apply w5)) | ((first | apply w6 | apply z6 | apply z0 | apply p5 | apply y0 | apply z7)))
      apply p8; apply zb0 Try.results49; exact rV_; intro w' hw
      exact ⟨rfl, hw.below (by simp)⟩
    · repeat' (first | (apply v8; exact rfl; exact dT_) | (apply v9; exact rfl; exact dF_) | ((first | apply w9 | apply y8 | apply x8); exact rfl; exact rfl) | (apply za7; exact rfl; exact rfl) | (apply w7; first | refine u9 (h := ?_) | refine y9 (h := ?_) | refine w8 (h := ?_) | refine q6 (h := ?_) | refine q0 (h := ?_)) | ((first | apply p3 | apply l0); exact rfl; exact rfl; exact rfl) | (apply j0; exact rfl; exact rfl; exact rfl; (constructor <;> omega)) | (apply o9; infer_instance; exact rfl; exact rfl) | (apply m8; infer_instance; infer_instance; exact rfl; exact rfl; (first | exact rfl | omega); exact rfl; (first | assumption | omega | decide)) | ((first | apply s9 | apply x9 | apply z8 | apply s7 | apply s8 | apply w4 | apply z9 | apply w5)) | ((first | apply w6 | apply z6 | apply z0 | apply p5 | apply y0 | apply z7)))
      refine o0 (i + 1) ⟨by omega, zh0 hm hb hd⟩ (by omega) ?_ ?_
      · exact fS_
      · exact hS_
  rw [List.take_of_length_le (by rw [List.length_map]; omega)] at hb
  rw [Plt.zK3 hb]
  repeat' (first | (apply v9; exact rfl; exact dF_) | ((first | apply w9 | apply y8 | apply x8); exact rfl; exact rfl) | ((first | apply p3 | apply l0); exact rfl; exact rfl; exact rfl) | (apply o9; infer_instance; exact rfl; exact rfl) | ((first | apply s9 | apply x9 | apply z8 | apply s7 | apply s8 | apply w4 | apply z9 | apply w5)) | ((first | apply w6 | apply z6 | apply z0 | apply p5 | apply y0 | apply z7)))
  apply p8; apply zb0 Try.results49; exact rV_; intro w' hw
  exact ⟨rfl, hw.below (by simp)⟩
theorem zW1 {v : Value} {l : List Int} (x : Int) (w : World) (h : SV w 1 encI v l) : Calls Try.prog 25 #[v, .int .i64 x] w fun e w' => e = .returned (.bool (B (x ∈ l))) ∧ Below w.heap.size w w' := by
  obtain ⟨a0, c0, rfl, hc, hop⟩ := h.open
  refine za8 Try.func25 rfl Try.ntmps25 rfl (Rep.start w) ?_
  repeat' (first | ((first | apply w9 | apply y8); exact rfl; exact rfl) | ((first | apply s9 | apply x9 | apply z8 | apply s7 | apply s8 | apply w4 | apply z9 | apply w5)) | ((first | apply w6 | apply z6 | apply z0 | apply p5 | apply y0 | apply z7)))
  apply j9 (σ := Nat) (Fs := fun i => [(5, .int .i64 i), (0, .slice a0 l.length c0), (1, .int .i64 x)]) (Ls := fun _ => []) (I := fun i => i ≤ l.length ∧ ∀ y ∈ l.take i, y ≠ x) (μ := fun i => l.length - i) (s0 := 0)
  · exact ⟨Nat.zero_le _, by simp⟩
  · exact fS_
  · exact hS_
  rintro i ⟨hi, hb⟩
  by_cases hlt : i < l.length
  · obtain ⟨d, hx⟩ : ∃ d, l[i]? = some d := ⟨_, List.getElem?_eq_getElem hlt⟩
    obtain ⟨b, off, cc, e, fz, rfl, hk, hp⟩ := hop (by omega)
    have q1 := hp.one hx rfl
    by_cases hd : d = x
    · rw [zj0 (by rw [← hd]; exact List.mem_of_getElem? hx)]
      repeat' (first | (apply v8; exact rfl; exact dT_) | ((first | apply w9 | apply y8); exact rfl; exact rfl) | (apply w7; first | refine u9 (h := ?_) | refine y9 (h := ?_) | refine w8 (h := ?_) | refine q6 (h := ?_) | refine q0 (h := ?_)) | ((first | apply p3 | apply l0); exact rfl; exact rfl; exact rfl) | (apply o9; infer_instance; exact rfl; exact rfl) | (apply m8; infer_instance; infer_instance; exact rfl; exact rfl; (first | exact rfl | omega); exact rfl; (first | assumption | omega | decide)) | ((first | apply s9 | apply x9 | apply z8 | apply s7 | apply s8 | apply w4 | apply z9 | apply w5)) | ((first | apply w6 | apply z6 | apply z0 | apply p5 | apply y0 | apply z7)))
      apply p8; apply zb0 Try.results25; exact rV_; intro w' hw
      exact ⟨rfl, hw.below (by simp)⟩
    · repeat' (first | (apply v8; exact rfl; exact dT_) | (apply v9; exact rfl; exact dF_) | ((first | apply w9 | apply y8); exact rfl; exact rfl) | (apply w7; first | refine u9 (h := ?_) | refine y9 (h := ?_) | refine w8 (h := ?_) | refine q6 (h := ?_) | refine q0 (h := ?_)) | ((first | apply p3 | apply l0); exact rfl; exact rfl; exact rfl) | (apply j0; exact rfl; exact rfl; exact rfl; (constructor <;> omega)) | (apply o9; infer_instance; exact rfl; exact rfl) | (apply m8; infer_instance; infer_instance; exact rfl; exact rfl; (first | exact rfl | omega); exact rfl; (first | assumption | omega | decide)) | ((first | apply s9 | apply x9 | apply z8 | apply s7 | apply s8 | apply w4 | apply z9 | apply w5)) | ((first | apply w6 | apply z6 | apply z0 | apply p5 | apply y0 | apply z7)))
      refine o0 (i + 1) ⟨by omega, zh0 hx hb hd⟩ (by omega) ?_ ?_
      · exact fS_
      · exact hS_
  rw [List.take_of_length_le (by omega)] at hb
  rw [zc2 (fun hm => hb x hm rfl)]
  repeat' (first | (apply v9; exact rfl; exact dF_) | ((first | apply w9 | apply y8); exact rfl; exact rfl) | ((first | apply p3 | apply l0); exact rfl; exact rfl; exact rfl) | (apply o9; infer_instance; exact rfl; exact rfl) | ((first | apply s9 | apply x9 | apply z8 | apply s7 | apply s8 | apply w4 | apply z9 | apply w5)) | ((first | apply w6 | apply z6 | apply z0 | apply p5 | apply y0 | apply z7)))
  apply p8; apply zb0 Try.results25; exact rV_; intro w' hw
  exact ⟨rfl, hw.below (by simp)⟩
end Go.Proofs.Ytdahckhlfldkkaa
namespace Go.Sx.Plt
open Go.Proofs.Ytdahckhlfldkkaa (zh5 psF tkF zl3 zi7)
theorem zJ6 {K V : Type} [DecidableEq K] {k : K} : ∀ {l : List (K × V)} {i : Nat} {v : V}, l[i]? = some (k, v) → (∀ y ∈ (l.map Prod.fst).take i, y ≠ k) → asF k l = some v
  | [], i, v, h, _ => by simp at h
  | a :: r, i, v, h, hb => by
    rw [asF]
    cases i with
    | zero => simp at h; subst h; simp
    | succ i =>
      rw [if_neg (hb a.1 (by simp))]
      exact zJ6 (by simpa using h) (fun y hy => hb y (by simp [hy]))
theorem yi5 {K V : Type} [DecidableEq K] {k : K} {l : List (K × V)} (h : k ∉ l.map Prod.fst) : asF k l = none := zj1.2 fun p hp e => h (List.mem_map.2 ⟨p, hp, e⟩)
theorem zZ6 {ms : List zb6} {x : Int} {k : Nat} {m : zb6} (hk : zj4 x (ms.map zb6.id) = (k : Int)) (hm : ms[k]? = some m) : m.id = x ∧ asF x (zf5 ms) = some (m.caps.length : Int) := by
  rcases zn5 x (ms.map zb6.id) with ⟨h, _⟩ | ⟨i, h1, h2, h3⟩
  · omega
  · obtain rfl : i = k := by omega
    rw [List.getElem?_map, hm] at h2
    simp only [Option.map_some, Option.some.injEq] at h2
    refine ⟨h2, zJ6 (i := i) ?_ ?_⟩
    · unfold zf5; rw [List.getElem?_map, hm, ← h2]; rfl
    · rw [zh5]; exact h3
theorem yC9 {ms : List zb6} {x : Int} (hk : zj4 x (ms.map zb6.id) = -1) : asF x (zf5 ms) = none := by
  rcases zn5 x (ms.map zb6.id) with ⟨_, h⟩ | ⟨i, h1, _⟩
  · exact yi5 (by rw [zh5]; exact h)
  · omega
theorem zG0 (x : Int) (l : List Int) : -1 ≤ zj4 x l ∧ zj4 x l < l.length := by
  rcases zn5 x l with ⟨h, _⟩ | ⟨i, h1, h2, _⟩
  · omega
  · have := (List.getElem?_eq_some_iff.1 h2).1; omega
theorem zx7 (msl : List (Int × Int)) (l : List za3) : (psF msl l).map Prod.fst = l.map za3.id := by simp [psF, Function.comp_def]
theorem yo2 {msl : List (Int × Int)} {l : List za3} {x : Int} {k i : Nat} {y : za3} (hk : zj4 x (l.map za3.id) = (k : Int)) (hy : l[k]? = some y) (hi : k < i) : y.id = x ∧ asF x (psF msl (l.take i)) = some ((asF y.mach msl).getD 0) := by
  rcases zn5 x (l.map za3.id) with ⟨h, _⟩ | ⟨j, h1, h2, h3⟩
  · omega
  · obtain rfl : j = k := by omega
    rw [List.getElem?_map, hy] at h2
    simp only [Option.map_some, Option.some.injEq] at h2
    refine ⟨h2, zJ6 (i := j) ?_ ?_⟩
    · unfold psF; rw [List.getElem?_map, List.getElem?_take_of_lt hi, hy, ← h2]; rfl
    · rw [zx7, List.map_take, List.take_take, Nat.min_eq_left (by omega)]; exact h3
theorem yo4 {msl : List (Int × Int)} {l : List za3} {x : Int} {i : Nat} (hk : zj4 x (l.map za3.id) < 0 ∨ (i : Int) ≤ zj4 x (l.map za3.id)) : asF x (psF msl (l.take i)) = none := by
  refine yi5 ?_
  rw [zx7, List.map_take]
  rcases zn5 x (l.map za3.id) with ⟨_, h⟩ | ⟨j, h1, h2, h3⟩
  · exact fun hm => h (List.mem_of_mem_take hm)
  · intro hm
    obtain ⟨n, hn⟩ := List.getElem?_of_mem hm
    have hnl := (List.getElem?_eq_some_iff.1 hn).1
    rw [List.length_take] at hnl
    rw [List.getElem?_take_of_lt (by omega)] at hn
    exact h3 x (List.mem_of_getElem? (i := n) (by rw [List.getElem?_take_of_lt (by omega)]; exact hn)) rfl
theorem zB6 {l : List Int} {x : Int} {i : Nat} (h : l[i]? = some x) : zj4 x l = (i : Int) ↔ x ∉ l.take i := by
  rcases zn5 x l with ⟨h1, h2⟩ | ⟨j, h1, h2, h3⟩
  · exact absurd (List.mem_of_getElem? h) h2
  · constructor
    · intro e hm
      obtain rfl : j = i := by omega
      exact h3 x hm rfl
    · intro hn
      rw [h1]
      congr 1
      rcases Nat.lt_trichotomy j i with g | g | g
      · exact absurd (List.mem_of_getElem? (i := j) (by rw [List.getElem?_take_of_lt g]; exact h2)) hn
      · exact g
      · exact absurd rfl (h3 x (List.mem_of_getElem? (i := i) (by rw [List.getElem?_take_of_lt g]; exact h)))
theorem yd6 {ms : List zb6} {l : List za3} {i : Nat} {y : za3} (hy : l[i]? = some y) : zB3 (zf5 ms) (psF (zf5 ms) (l.take i)) y ↔ (1 ≤ y.id ∧ y.id ≤ 999999) ∧ zj4 y.id (l.map za3.id) = (i : Int) ∧ 0 ≤ zj4 y.mach (ms.map zb6.id) ∧ 0 ≤ y.rel ∧ y.rel ≤ 1051898399 := by
  have hm : (l.map za3.id)[i]? = some y.id := by rw [List.getElem?_map, hy]; rfl
  have h1 : asF y.id (psF (zf5 ms) (l.take i)) = none ↔ zj4 y.id (l.map za3.id) = (i : Int) := by
    rw [zB6 hm]
    constructor
    · intro h hh
      rw [zj1] at h
      rw [← List.map_take, ← zx7 (zf5 ms)] at hh
      obtain ⟨p, hp, e⟩ := List.mem_map.1 hh
      exact h p hp e
    · intro h
      exact yi5 (by rw [zx7, List.map_take]; exact h)
  have h2 : (asF y.mach (zf5 ms)).isSome = true ↔ 0 ≤ zj4 y.mach (ms.map zb6.id) := by
    rcases zn5 y.mach (ms.map zb6.id) with ⟨g, _⟩ | ⟨k, g, g2, _⟩
    · rw [yC9 g, g]; simp
    · rw [List.getElem?_map] at g2
      cases hk : ms[k]? with
      | none => rw [hk] at g2; cases g2
      | some m => rw [(zZ6 g hk).2, g]; simp
  unfold zB3 zB5
  rw [h1, h2]
  constructor
  · rintro ⟨⟨a, b⟩, c, d, e⟩; exact ⟨c, a, b, d, e⟩
  · rintro ⟨c, a, b, d, e⟩; exact ⟨⟨a, b⟩, c, d, e⟩
theorem ys8 {ps tk src : List (Int × Int)} {k : Nat} {s : Int × Int} (h : src[k]? = some s) : zg1 ps (tk ++ src.take k) (src.drop k) ↔ (zi9 ps s ∧ s ∉ tk ++ src.take k) ∧ zg1 ps (tk ++ src.take (k + 1)) (src.drop (k + 1)) := by
  rw [Go.Proofs.Ytdahckhlfldkkaa.drop_at h, zg1, Go.Proofs.Ytdahckhlfldkkaa.take_snoc h, List.append_assoc]
theorem ys3 {n : Int} {t : List Row} {k : Nat} {e : Row} (h : t[k]? = some e) : zf6 n ((t.take k).map Row.stop) (t.drop k) ↔ (e.stop ∉ (t.take k).map Row.stop ∧ 0 ≤ e.st ∧ e.st < n) ∧ zf6 n ((t.take (k + 1)).map Row.stop) (t.drop (k + 1)) := by
  rw [Go.Proofs.Ytdahckhlfldkkaa.drop_at h, zf6, Go.Proofs.Ytdahckhlfldkkaa.take_snoc h, List.map_append]
  rfl
theorem zs5 {l : List za3} {i : Nat} {y : za3} (hy : l[i]? = some y) {s : Int × Int} {k : Nat} : s ∈ tkF (l.take i) ++ y.src.take k ↔ (∃ j, j < i ∧ ∃ z, l[j]? = some z ∧ s ∈ z.src) ∨ s ∈ y.src.take k := by
  rw [List.mem_append]
  unfold tkF
  rw [List.mem_flatMap]
  constructor
  · rintro (⟨z, hz, hs⟩ | h)
    · obtain ⟨j, hj⟩ := List.getElem?_of_mem hz
      have hjl := (List.getElem?_eq_some_iff.1 hj).1
      rw [List.length_take] at hjl
      rw [List.getElem?_take_of_lt (by omega)] at hj
      exact .inl ⟨j, by omega, z, hj, hs⟩
    · exact .inr h
  · rintro (⟨j, hj, z, hz, hs⟩ | h)
    · exact .inl ⟨z, List.mem_of_getElem? (i := j) (by rw [List.getElem?_take_of_lt hj]; exact hz), hs⟩
    · exact .inr h
end Go.Sx.Plt
namespace Go.Proofs.Ytdahckhlfldkkaa
open Go Go.Sx Go.RowKit
theorem PlV.mids {w : World} {q : PlD} {p : Plt.g8} (h : PlV w q p) : q.ds.map MD.id = p.ms.map Plt.zb6.id := by
  apply List.ext_getElem?
  intro i
  rw [List.getElem?_map, List.getElem?_map]
  have hl := h.lm
  by_cases hi : i < p.ms.length
  · have h1 := List.getElem?_eq_getElem (show i < q.ds.length by omega)
    have h2 := List.getElem?_eq_getElem hi
    have := (h.machs i _ _ h1 h2).id
    rw [h1, h2]; simp [this]
  · rw [List.getElem?_eq_none (by omega), List.getElem?_eq_none (by omega)]; rfl
theorem PlV.pids {w : World} {q : PlD} {p : Plt.g8} (h : PlV w q p) : q.ys.map PD.id = p.passes.map Plt.za3.id := by
  apply List.ext_getElem?
  intro i
  rw [List.getElem?_map, List.getElem?_map]
  have hl := h.lp
  by_cases hi : i < p.passes.length
  · have h1 := List.getElem?_eq_getElem (show i < q.ys.length by omega)
    have h2 := List.getElem?_eq_getElem hi
    have := (h.pass i _ _ h1 h2).id
    rw [h1, h2]; simp [this]
  · rw [List.getElem?_eq_none (by omega), List.getElem?_eq_none (by omega)]; rfl
theorem ze7 {q : PlD} {p : Plt.g8} {x k : Int} (hk : Plt.zj4 x (p.ms.map Plt.zb6.id) = k) (w : World) (h : PlV w q p) : Calls Try.prog 24 #[sdV q.m, .int .i64 x] w fun e w' => e = .returned (.int .i64 k) ∧ Below w.heap.size w w' := by
  have := zR8 x w h.ms
  rw [h.mids, hk] at this; exact this
theorem zj5 {q : PlD} {p : Plt.g8} {x k : Int} (hk : Plt.zj4 x (p.passes.map Plt.za3.id) = k) (w : World) (h : PlV w q p) : Calls Try.prog 49 #[sdV q.p, .int .i64 x] w fun e w' => e = .returned (.int .i64 k) ∧ Below w.heap.size w w' := by
  have := yf5 x w h.ps
  rw [h.pids, hk] at this; exact this
theorem zr2 {q : PlD} {p : Plt.g8} {x k : Int} (hk : Plt.zj4 x (p.items.map Plt.Item.id) = k) (w : World) (h : PlV w q p) : Calls Try.prog 22 #[sdV q.i, .int .i64 x] w fun e w' => e = .returned (.int .i64 k) ∧ Below w.heap.size w w' := by
  have := yf4 x w h.items
  rw [hk] at this; exact this
theorem zo7 {x : Int} {b : Bool} (hb : decide (1 ≤ x ∧ x ≤ 999999) = b) (w : World) : Calls Try.prog 33 #[.int .i64 x] w fun e w' => e = .returned (.bool b) ∧ Below w.heap.size w w' := by
  subst hb; exact ys0 x w
theorem PassV.eqs {w : World} {d : PD} {y : Plt.za3} (h : PassV w d y) : ∃ x1 k1 x2 k2 x3 k3, d = ⟨y.id, y.mach, y.rel, (x1, y.src.length, k1), (x2, y.table.length, k2), (x3, y.unread.length, k3)⟩ := by
  obtain ⟨id, ma, re, s1, s2, s3⟩ := d
  obtain ⟨e1, e2, e3, h4, h5, h6⟩ := h
  dsimp only at e1 e2 e3 h4 h5 h6
  obtain ⟨x1, k1, rfl⟩ := SV.sd h4
  obtain ⟨x2, k2, rfl⟩ := SV.sd h5
  obtain ⟨x3, k3, rfl⟩ := SV.sd h6
  exact ⟨x1, k1, x2, k2, x3, k3, by rw [e1, e2, e3]⟩
theorem MachV.eqs {w : World} {d : MD} {m : Plt.zb6} (h : MachV w d m) : ∃ x1 k1 x2 k2, d = ⟨m.id, m.sweeps, m.rate, (x1, m.caps.length, k1), (x2, m.shifts.length, k2)⟩ := by
  obtain ⟨id, sw, ra, s1, s2⟩ := d
  obtain ⟨e1, e2, e3, h4, h5⟩ := h
  dsimp only at e1 e2 e3 h4 h5
  obtain ⟨x1, k1, rfl⟩ := SV.sd h4
  obtain ⟨x2, k2, rfl⟩ := SV.sd h5
  exact ⟨x1, k1, x2, k2, by rw [e1, e2, e3]⟩
end Go.Proofs.Ytdahckhlfldkkaa
namespace Go.Proofs.Ytdahckhlfldkkaa
open Go Go.Sx Go.RowKit
attribute [local irreducible] WL WC WQ WR WB WF QB St Exit.then Exit.inBlock Exit.noGoto bodyPost roundPost zc1 YR RG BM Calls B zc7 ze3
theorem RunV.eqs {w : World} {d : RD} {r : Plt.Run} (h : RunV w d r) : ∃ x1 k1 x2 k2 x3 k3 x4 k4 x5 k5 x6 k6 x7 k7, d = ⟨r.pass, r.start, r.fin, (x1, r.items.length, k1), (x2, r.slices.length, k2), (x3, r.res.stackers.length, k3), (x4, r.res.swept.length, k4), (x5, r.res.over.length, k5), (x6, r.res.rej.length, k6), (x7, r.res.evs.length, k7)⟩ := by
  obtain ⟨x1, k1, e1⟩ := h.items.sd
  obtain ⟨x2, k2, e2⟩ := h.slices.sd
  rw [Plt.zj6] at e2
  obtain ⟨ss, h3, h4⟩ := h.stk
  obtain ⟨x3, k3, e3⟩ := h3.sd
  rw [h4.1] at e3
  obtain ⟨x4, k4, e4⟩ := h.sw.sd
  obtain ⟨x5, k5, e5⟩ := h.ov.sd
  obtain ⟨x6, k6, e6⟩ := h.rj.sd
  obtain ⟨x7, k7, e7⟩ := h.ev.sd
  obtain ⟨p, s, f, i1, i2, i3, i4, i5, i6, i7⟩ := d
  refine ⟨x1, k1, x2, k2, x3, k3, x4, k4, x5, k5, x6, k6, x7, k7, ?_⟩
  obtain rfl : p = r.pass := h.pass
  obtain rfl : s = r.start := h.start
  obtain rfl : f = r.fin := h.fin
  dsimp only at e1 e2 e3 e4 e5 e6 e7
  rw [e1, e2, e3, e4, e5, e6, e7]
def StkV (w : World) (v : Value) (xss : List (List Int)) : Prop := ∃ ss, SV w 1 encS v ss ∧ SL w 1 encI ss xss
theorem StkV.keep {w0 w : World} {L : List Ent} {v : Value} {xss : List (List Int)} (h : StkV w0 v xss) (hw : Rep w0 w L) (ho : AO L) : StkV w v xss := by
  obtain ⟨ss, h1, h2⟩ := h
  exact ⟨ss, h1.keep hw ho, h2.keep hw ho⟩
theorem yj8 {va vb : Value} {xss : List (List Int)} (w : World) (ha : StkV w va xss) (hb : StkV w vb xss) : Calls Try.prog 19 #[va, vb] w fun e w' => e = .returned (.bool true) ∧ Below w.heap.size w w' := by
  obtain ⟨ss, h1, h2⟩ := ha
  obtain ⟨tt, h3, h4⟩ := hb
  exact zW2 rfl w h1 h2 h3 h4
set_option maxHeartbeats 4000000 in
set_option maxRecDepth 100000 in
theorem ya7 {d1 d2 : RD} {r : Plt.Run} (w : World) (h1 : RunV w d1 r) (h2 : RunV w d2 r) : Calls Try.prog 40 #[.agg #[sdV d1.stk, sdV d1.sw, sdV d1.ov, sdV d1.rj, sdV d1.ev], .agg #[sdV d2.stk, sdV d2.sw, sdV d2.ov, sdV d2.rj, sdV d2.ev]] w fun e w' => e = .returned (.bool true) ∧ Below w.heap.size w w' := by
  obtain ⟨x1, k1, x2, k2, x3, k3, x4, k4, x5, k5, x6, k6, x7, k7, rfl⟩ := h1.eqs
  obtain ⟨y1, j1, y2, j2, y3, j3, y4, j4, y5, j5, y6, j6, y7, j7, rfl⟩ := h2.eqs
  have ht1 : StkV w _ _ := h1.stk
  have ht2 : StkV w _ _ := h2.stk
  have hs1 := h1.sw
  have hs2 := h2.sw
  have ho1 := h1.ov
  have ho2 := h2.ov
  have hr1 := h1.rj
  have hr2 := h2.rj
  have he1 := h1.ev
  have he2 := h2.ev
  dsimp only [sdV] at ht1 ht2 hs1 hs2 ho1 ho2 hr1 hr2 he1 he2 ⊢
  obtain ⟨_, _, e1, hc1, hop1⟩ := he1.open
  cases e1
  obtain ⟨_, _, e1, hc2, hop2⟩ := he2.open
  cases e1
  refine za8 Try.func40 rfl Try.ntmps40 rfl (Rep.start w) ?_
  repeat' (first | (apply v9; exact rfl; exact dF_) | ((first | ((apply t8 (f := 19)); exact rfl) | ((apply t9 (f := 19)); exact rfl; kernel_rfl; exact rfl; exact sJ_)); exact eV_; exact (fun w hw => yj8 w (ht1.keep hw (by exact aO_)) (ht2.keep hw (by exact aO_)))) | ((first | ((apply t8 (f := 18)); exact rfl) | ((apply t9 (f := 18)); exact rfl; kernel_rfl; exact rfl; exact sJ_)); exact eV_; exact (fun w hw => zx8 rfl w (hs1.keep hw (by exact aO_)) (hs2.keep hw (by exact aO_)))) | ((first | ((apply t8 (f := 18)); exact rfl) | ((apply t9 (f := 18)); exact rfl; kernel_rfl; exact rfl; exact sJ_)); exact eV_; exact (fun w hw => zx8 rfl w (ho1.keep hw (by exact aO_)) (ho2.keep hw (by exact aO_)))) | ((first | ((apply t8 (f := 18)); exact rfl) | ((apply t9 (f := 18)); exact rfl; kernel_rfl; exact rfl; exact sJ_)); exact eV_; exact (fun w hw => zx8 rfl w (hr1.keep hw (by exact aO_)) (hr2.keep hw (by exact aO_)))) | ((first | apply w9 | apply y8 | apply x8 | apply p4); exact rfl; exact rfl) | (apply w7; first | refine u9 (h := ?_) | refine y9 (h := ?_) | refine w8 (h := ?_) | refine q6 (h := ?_) | refine q0 (h := ?_)) | ((first | apply p3 | apply l8); exact rfl; exact rfl; exact rfl) | (apply zd5; exact rfl; exact rfl) | (apply p9; exact rfl; exact fF_; exact rfl; exact rfl) | (apply zc5; exact rfl; exact rfl; exact rfl; intro _) | (apply o9; infer_instance; exact rfl; exact rfl) | ((first | apply k9); exact rfl; exact gG_) | ((first | apply s9 | apply x9 | apply z8 | apply s7 | apply s8 | apply w4 | apply z9 | apply w5)) | ((first | apply w6 | apply z6 | apply z0 | apply p5 | apply y0 | apply z7)))
  rename_i b2 b3
  apply j9 (σ := Nat) (Fs := fun i => [(48, .int .i64 i), (47, .int .i64 r.res.evs.length), (46, .slice x7 r.res.evs.length k7), (2, ptr b2), (3, ptr b3)])
    (Ls := fun i => ⟨b2, Ce [.slice x3 r.res.stackers.length k3, .slice x4 r.res.swept.length k4, .slice x5 r.res.over.length k5, .slice x6 r.res.rej.length k6, .slice x7 r.res.evs.length k7] 72, true⟩ :: ⟨b3, Ce [.slice y3 r.res.stackers.length j3, .slice y4 r.res.swept.length j4, .slice y5 r.res.over.length j5, .slice y6 r.res.rej.length j6, .slice y7 r.res.evs.length j7] 104, true⟩ :: []) (I := fun i => i ≤ r.res.evs.length) (μ := fun i => r.res.evs.length - i) (s0 := 0)
  · exact Nat.zero_le _
  · exact fS_
  · exact hS_
  intro i hi
  have hi : i ≤ r.res.evs.length := hi
  by_cases hlt : i < r.res.evs.length
  · obtain ⟨⟨ek, ei, es⟩, hx⟩ : ∃ s, r.res.evs[i]? = some s := ⟨_, List.getElem?_eq_getElem hlt⟩
    obtain ⟨b, off, cc, e, fz, rfl, hk, hp⟩ := hop1 (by omega)
    obtain ⟨b', off', cc', e', fz', rfl, hk', hp'⟩ := hop2 (by omega)
    have g1 : ∀ jj u, ([.int .u8 ek, .int .i64 ei, .int .i64 es] : List Value)[jj]? = some u → cc[off + i * 3 + jj]? = some u := hp.get hx
    have g2 : ∀ jj u, ([.int .u8 ek, .int .i64 ei, .int .i64 es] : List Value)[jj]? = some u → cc'[off' + i * 3 + jj]? = some u := hp'.get hx
    as_aux_lemma =>
      repeat' (first | (apply v8; exact rfl; exact dT_) | (apply v9; exact rfl; exact dF_) | ((first | apply w9 | apply y8 | apply x8 | apply p4); exact rfl; exact rfl) | ((first | apply p3 | apply l8); exact rfl; exact rfl; exact rfl) | (apply j0; exact rfl; exact rfl; exact rfl; (constructor <;> omega)) | ((first | apply s9 | apply x9 | apply z8 | apply s7 | apply s8 | apply w4 | apply z9 | apply w5)) | ((first | apply w6 | apply z6 | apply z0 | apply p5 | apply y0 | apply z7)) | ((apply p6 (id := 6) []); kernel_rfl; kernel_rfl) | (apply za6; try simp only [za9, List.cons_append, List.nil_append]) | ((first | apply i9 | apply n9 | apply m5); exact rfl; exact rfl) | ((first | apply zb4); exact rfl; exact rfl) | (apply m0; first | refine k8 (h := ?_) | refine p7 (h := ?_) | refine m6 (h := ?_) | refine d8 (h := ?_) | refine d7 (h := ?_)) | ((first | apply ze6 | apply zr1); exact rfl; exact rfl; exact rfl) | (apply zh9; exact rfl; exact fF_; exact rfl; exact rfl) | (apply zc3; infer_instance; infer_instance; exact rfl; exact rfl; (first | exact rfl | omega); exact rfl; (first | assumption | omega | decide)) | ((first | apply zt3); exact rfl; exact gG_))
      refine o0 (i + 1) (show i + 1 ≤ r.res.evs.length by omega) (show r.res.evs.length - (i + 1) < r.res.evs.length - i by omega) ?_ ?_
      · exact fS_
      · exact hS_
  obtain rfl : i = r.res.evs.length := by omega
  repeat' (first | (apply v9; exact rfl; exact dF_) | ((first | apply w9 | apply y8 | apply x8 | apply p4); exact rfl; exact rfl) | ((first | apply p3 | apply l8); exact rfl; exact rfl; exact rfl) | ((first | apply s9 | apply x9 | apply z8 | apply s7 | apply s8 | apply w4 | apply z9 | apply w5)) | ((first | apply w6 | apply z6 | apply z0 | apply p5 | apply y0 | apply z7)))
  apply p8; apply zb0 Try.results40; exact rV_; intro w' hw
  exact ⟨rfl, hw.below (show AO _ from by exact aO_)⟩
end Go.Proofs.Ytdahckhlfldkkaa
namespace Go.Proofs.Ytdahckhlfldkkaa
open Go Go.Sx Go.RowKit
attribute [local irreducible] WL WC WQ WR WB WF QB St Exit.then Exit.inBlock Exit.noGoto bodyPost roundPost zc1 YR RG BM Calls B zc7 ze3
theorem yn0 {w : World} {b : Nat} {l l' : List Value} {e : TypeId} {o k : Nat} (h : w.heap[b]? = some (Ce l e)) (hd : (l.drop o).take k = l') {j : Nat} {v : Value} (hj : l'[j]? = some v) : w.cell? ⟨b, o + j, none⟩ = some v := by
  subst hd
  have hjk : j < k := by
    have := (List.getElem?_eq_some_iff.1 hj).1
    rw [List.length_take] at this
    omega
  rw [List.getElem?_take_of_lt hjk, List.getElem?_drop] at hj
  simp [World.cell?, h, hj]
set_option maxHeartbeats 8000000 in
set_option maxRecDepth 100000 in
theorem yl2 {a1 a2 : Option Addr} {c1 c2 : Nat} {ds1 ds2 : List RD} {runs : List Plt.Run} (w : World) (h1 : RunsV w (.slice a1 runs.length c1) ds1 runs) (h2 : RunsV w (.slice a2 runs.length c2) ds2 runs) :
    Calls Try.prog 17 #[.slice a1 runs.length c1, .slice a2 runs.length c2] w fun e w' => e = .returned (.bool true) ∧ Below w.heap.size w w' := by
  obtain ⟨hs1, hl1, hh1⟩ := h1
  obtain ⟨hs2, hl2, hh2⟩ := h2
  obtain ⟨_, _, e1, hc1, hop1⟩ := hs1.open
  simp only [Value.slice.injEq] at e1
  obtain ⟨rfl, -, rfl⟩ := e1
  obtain ⟨_, _, e1, hc2, hop2⟩ := hs2.open
  simp only [Value.slice.injEq] at e1
  obtain ⟨rfl, -, rfl⟩ := e1
  rw [hl1] at hc1 hop1
  rw [hl2] at hc2 hop2
  refine za8 Try.func17 rfl Try.ntmps17 rfl (Rep.start w) ?_
  repeat' (first | (apply v9; exact rfl; exact dF_) | ((first | apply w9 | apply y8 | apply x8 | apply p4); exact rfl; exact rfl) | ((first | apply p3 | apply l8); exact rfl; exact rfl; exact rfl) | (apply o9; infer_instance; exact rfl; exact rfl) | ((first | apply s9 | apply x9 | apply z8 | apply s7 | apply s8 | apply w4 | apply z9 | apply w5)) | ((first | apply w6 | apply z6 | apply z0 | apply p5 | apply y0 | apply z7)))
  apply j9 (σ := Nat) (Fs := fun i => [(17, .int .i64 i), (16, .int .i64 runs.length), (15, .slice a1 runs.length c1), (1, .slice a2 runs.length c2)])
    (Ls := fun i => []) (I := fun i => i ≤ runs.length) (μ := fun i => runs.length - i) (s0 := 0)
  · exact Nat.zero_le _
  · exact fS_
  · exact hS_
  intro i hi
  have hi : i ≤ runs.length := hi
  by_cases hlt : i < runs.length
  · obtain ⟨r, hr⟩ : ∃ s, runs[i]? = some s := ⟨_, List.getElem?_eq_getElem hlt⟩
    obtain ⟨d1, hd1⟩ : ∃ s, ds1[i]? = some s := ⟨_, List.getElem?_eq_getElem (by omega)⟩
    obtain ⟨d2, hd2⟩ : ∃ s, ds2[i]? = some s := ⟨_, List.getElem?_eq_getElem (by omega)⟩
    have hR1 := hh1 i d1 r hd1 hr
    have hR2 := hh2 i d2 r hd2 hr
    obtain ⟨x1, k1, x2, k2, x3, k3, x4, k4, x5, k5, x6, k6, x7, k7, rfl⟩ := hR1.eqs
    obtain ⟨y1, j1, y2, j2, y3, j3, y4, j4, y5, j5, y6, j6, y7, j7, rfl⟩ := hR2.eqs
    have hi1 := hR1.items
    have hi2 := hR2.items
    have hq1 := hR1.slices
    have hq2 := hR2.slices
    dsimp only [sdV] at hi1 hi2 hq1 hq2
    obtain ⟨_, _, e1, hc3, hop3⟩ := hq1.open
    simp only [Value.slice.injEq] at e1
    obtain ⟨rfl, -, rfl⟩ := e1
    obtain ⟨_, _, e1, hc4, hop4⟩ := hq2.open
    simp only [Value.slice.injEq] at e1
    obtain ⟨rfl, -, rfl⟩ := e1
    rw [Plt.zj6] at hc3 hop3 hc4 hop4
    obtain ⟨b, off, cc, e, fz, rfl, hk, hp⟩ := hop1 (by omega)
    obtain ⟨b', off', cc', e', fz', rfl, hk', hp'⟩ := hop2 (by omega)
    have g1 : ∀ jj u, ([.int .i64 r.pass, .int .i64 r.start, .int .i64 r.fin, .slice x1 r.items.length k1, .slice x2 r.slices.length k2, .slice x3 r.res.stackers.length k3, .slice x4 r.res.swept.length k4, .slice x5 r.res.over.length k5, .slice x6 r.res.rej.length k6, .slice x7 r.res.evs.length k7] : List Value)[jj]? = some u → cc[off + i * 10 + jj]? = some u := hp.get hd1
    have g2 : ∀ jj u, ([.int .i64 r.pass, .int .i64 r.start, .int .i64 r.fin, .slice y1 r.items.length j1, .slice y2 r.slices.length j2, .slice y3 r.res.stackers.length j3, .slice y4 r.res.swept.length j4, .slice y5 r.res.over.length j5, .slice y6 r.res.rej.length j6, .slice y7 r.res.evs.length j7] : List Value)[jj]? = some u → cc'[off' + i * 10 + jj]? = some u := hp'.get hd2
    repeat' (first | (apply v8; exact rfl; exact dT_) | (apply p9; exact rfl; exact dF_; exact rfl; exact rfl) | (apply k9; exact rfl; exact dF_) | ((first | ((apply t8 (f := 18)); exact rfl) | ((apply t9 (f := 18)); exact rfl; kernel_rfl; exact rfl; exact sJ_)); exact eV_; exact (fun w hw => zx8 rfl w (hi1.keep hw (by exact aO_)) (hi2.keep hw (by exact aO_)))) | ((first | apply w9 | apply y8 | apply x8 | apply p4); exact rfl; exact rfl) | (apply w7; first | refine u9 (h := ?_) | refine y9 (h := ?_) | refine w8 (h := ?_) | refine q6 (h := ?_) | refine q0 (h := ?_)) | ((first | apply p3 | apply l8); exact rfl; exact rfl; exact rfl) | (apply zd5; exact rfl; exact rfl) | (apply p9; exact rfl; exact fF_; exact rfl; exact rfl) | (apply o7; exact rfl; intro _) | (apply q7; first | refine q8 (h := ?_) | refine q9 (h := ?_)) | (apply o9; infer_instance; exact rfl; exact rfl) | (apply m8; infer_instance; infer_instance; exact rfl; exact rfl; (first | exact rfl | omega); exact rfl; (first | assumption | omega | decide)) | ((first | apply k9); exact rfl; exact gG_) | ((first | apply s9 | apply x9 | apply z8 | apply s7 | apply s8 | apply w4 | apply z9 | apply w5)) | ((first | apply w6 | apply z6 | apply z0 | apply p5 | apply y0 | apply z7)))
    rename_i b6 b7
    repeat' (first | (apply p9; exact rfl; exact dF_; exact rfl; exact rfl) | (apply k9; exact rfl; exact dF_) | ((apply zR0 (l := [.slice x3 r.res.stackers.length k3, .slice x4 r.res.swept.length k4, .slice x5 r.res.over.length k5, .slice x6 r.res.rej.length k6, .slice x7 r.res.evs.length k7])); infer_instance; infer_instance; exact rfl; (intro w' hw' j' v' hj'; exact yn0 (hw'.at (b := b6) (o := Ce [.int .i64 r.pass, .int .i64 r.start, .int .i64 r.fin, .slice x1 r.items.length k1, .slice x2 r.slices.length k2, .slice x3 r.res.stackers.length k3, .slice x4 r.res.swept.length k4, .slice x5 r.res.over.length k5, .slice x6 r.res.rej.length k6, .slice x7 r.res.evs.length k7] 74) (by exact aT_)) (o := 5) (k := 5) rfl hj'); exact rfl; exact rfl) | ((apply zR0 (l := [.slice y3 r.res.stackers.length j3, .slice y4 r.res.swept.length j4, .slice y5 r.res.over.length j5, .slice y6 r.res.rej.length j6, .slice y7 r.res.evs.length j7])); infer_instance; infer_instance; exact rfl; (intro w' hw' j' v' hj'; exact yn0 (hw'.at (b := b7) (o := Ce [.int .i64 r.pass, .int .i64 r.start, .int .i64 r.fin, .slice y1 r.items.length j1, .slice y2 r.slices.length j2, .slice y3 r.res.stackers.length j3, .slice y4 r.res.swept.length j4, .slice y5 r.res.over.length j5, .slice y6 r.res.rej.length j6, .slice y7 r.res.evs.length j7] 106) (by exact aT_)) (o := 5) (k := 5) rfl hj'); exact rfl; exact rfl) | ((first | ((apply t8 (f := 40)); exact rfl) | ((apply t9 (f := 40)); exact rfl; kernel_rfl; exact rfl; exact sJ_)); exact eV_; exact (fun w hw => ya7 w (hR1.keep hw (by exact aO_)) (hR2.keep hw (by exact aO_)))) | ((first | apply w9 | apply y8 | apply x8 | apply p4); exact rfl; exact rfl) | (apply w7; first | refine u9 (h := ?_) | refine y9 (h := ?_) | refine w8 (h := ?_) | refine q6 (h := ?_) | refine q0 (h := ?_)) | (apply zd5; exact rfl; exact rfl) | (apply o9; infer_instance; exact rfl; exact rfl) | ((first | apply s9 | apply x9 | apply z8 | apply s7 | apply s8 | apply w4 | apply z9 | apply w5)) | (apply v9; exact rfl; exact fF_) | ((first | apply w6 | apply z6 | apply z0 | apply p5 | apply y0 | apply z7)))
    apply j9 (σ := Nat) (Fs := fun k => [(73, .int .i64 k), (72, .int .i64 r.slices.length), (71, .slice x2 r.slices.length k2), (7, ptr b7), (17, .int .i64 i), (16, .int .i64 runs.length), (15, .slice (some ⟨b, off, none⟩) runs.length c1), (1, .slice (some ⟨b', off', none⟩) runs.length c2)])
      (Ls := fun k => ⟨b7, Ce [.int .i64 r.pass, .int .i64 r.start, .int .i64 r.fin, .slice y1 r.items.length j1, .slice y2 r.slices.length j2, .slice y3 r.res.stackers.length j3, .slice y4 r.res.swept.length j4, .slice y5 r.res.over.length j5, .slice y6 r.res.rej.length j6, .slice y7 r.res.evs.length j7] 106, true⟩ :: []) (I := fun k => k ≤ r.slices.length) (μ := fun k => r.slices.length - k) (s0 := 0)
    · exact Nat.zero_le _
    · exact fS_
    · exact hS_
    intro k hk
    have hk : k ≤ r.slices.length := hk
    by_cases hkl : k < r.slices.length
    · obtain ⟨⟨sf, su⟩, hx⟩ : ∃ s, r.slices[k]? = some s := ⟨_, List.getElem?_eq_getElem hkl⟩
      have hx3 : (Plt.zd6 r.pass r.slices)[k]? = some (r.pass, sf, su) := by unfold Plt.zd6; rw [List.getElem?_map, hx]; rfl
      obtain ⟨bz, oz, ccz, ez, fzz, rfl, hkz, hpz⟩ := hop3 (by omega)
      obtain ⟨by_, oy, ccy, ey, fzy, rfl, hky, hpy⟩ := hop4 (by omega)
      have gz : ∀ jj u, ([.int .i64 r.pass, .int .i64 sf, .int .i64 su] : List Value)[jj]? = some u → ccz[oz + k * 3 + jj]? = some u := hpz.get hx3
      have gy : ∀ jj u, ([.int .i64 r.pass, .int .i64 sf, .int .i64 su] : List Value)[jj]? = some u → ccy[oy + k * 3 + jj]? = some u := hpy.get hx3
      as_aux_lemma =>
        repeat' (first | (apply v8; exact rfl; exact dT_) | (apply v9; exact rfl; exact dF_) | ((first | apply w9 | apply y8 | apply x8 | apply p4); exact rfl; exact rfl) | (apply w7; first | refine u9 (h := ?_) | refine y9 (h := ?_) | refine w8 (h := ?_) | refine q6 (h := ?_) | refine q0 (h := ?_)) | ((first | apply p3 | apply l8); exact rfl; exact rfl; exact rfl) | (apply j0; exact rfl; exact rfl; exact rfl; (constructor <;> omega)) | (apply o7; exact rfl; intro _) | (apply q7; first | refine q8 (h := ?_) | refine q9 (h := ?_)) | (apply m8; infer_instance; infer_instance; exact rfl; exact rfl; (first | exact rfl | omega); exact rfl; (first | assumption | omega | decide)) | ((first | apply s9 | apply x9 | apply z8 | apply s7 | apply s8 | apply w4 | apply z9 | apply w5)) | ((first | apply w6 | apply z6 | apply z0 | apply p5 | apply y0 | apply z7)) | ((apply p6 (id := 12) []); kernel_rfl; kernel_rfl) | (apply za6; try simp only [za9, List.cons_append, List.nil_append]) | ((first | apply i9 | apply n9 | apply m5); exact rfl; exact rfl) | ((first | apply zb4); exact rfl; exact rfl) | (apply m0; first | refine k8 (h := ?_) | refine p7 (h := ?_) | refine m6 (h := ?_) | refine d8 (h := ?_) | refine d7 (h := ?_)) | ((first | apply ze6 | apply zr1); exact rfl; exact rfl; exact rfl) | (apply zh9; exact rfl; exact fF_; exact rfl; exact rfl) | (apply zc3; infer_instance; infer_instance; exact rfl; exact rfl; (first | exact rfl | omega); exact rfl; (first | assumption | omega | decide)) | ((first | apply zt3); exact rfl; exact gG_))
        refine o0 (k + 1) (show k + 1 ≤ r.slices.length by omega) (show r.slices.length - (k + 1) < r.slices.length - k by omega) ?_ ?_
        · exact fS_
        · exact hS_
    obtain rfl : k = r.slices.length := by omega
    repeat' (first | (apply v9; exact rfl; exact dF_) | ((first | apply w9 | apply y8 | apply x8 | apply p4); exact rfl; exact rfl) | ((first | apply p3 | apply l8); exact rfl; exact rfl; exact rfl) | (apply j0; exact rfl; exact rfl; exact rfl; (constructor <;> omega)) | ((first | apply s9 | apply x9 | apply z8 | apply s7 | apply s8 | apply w4 | apply z9 | apply w5)) | ((first | apply w6 | apply z6 | apply z0 | apply p5 | apply y0 | apply z7)))
    refine o0 (i + 1) (show i + 1 ≤ runs.length by omega) (show runs.length - (i + 1) < runs.length - i by omega) ?_ ?_
    · exact fS_
    · exact hS_
  obtain rfl : i = runs.length := by omega
  repeat' (first | (apply v9; exact rfl; exact dF_) | ((first | apply w9 | apply y8 | apply x8 | apply p4); exact rfl; exact rfl) | ((first | apply p3 | apply l8); exact rfl; exact rfl; exact rfl) | ((first | apply s9 | apply x9 | apply z8 | apply s7 | apply s8 | apply w4 | apply z9 | apply w5)) | ((first | apply w6 | apply z6 | apply z0 | apply p5 | apply y0 | apply z7)))
  apply p8; apply zb0 Try.results17; exact rV_; intro w' hw
  exact ⟨rfl, hw.below (show AO _ from by exact aO_)⟩
end Go.Proofs.Ytdahckhlfldkkaa
namespace Go.Sx.Srt
open Go.Sx.Seq (zm3 zl8)
def shift (d : Int) (m : M) : M := { m with left := m.left + d }
def yM1 (caps : List Int) (l : List Fd) : Int := (za2 caps l.length l).swept.sum
end Go.Sx.Srt
namespace Go.Sx.Srt
open Go.Sx.Seq (zm3 zl8)
def goes (l : List Fd) (k : Nat) : List Int := (l.filter fun f => f.st = (k : Int)).map Fd.item
def refused (l : List Fd) : List Int := (l.filter fun f => f.st < 0).map Fd.item
theorem zD4 {α : Type} {P : List α → Prop} (h0 : P []) (h1 : ∀ l x, P l → P (l ++ [x])) : ∀ l, P l := by
  intro l
  have : ∀ n, n ≤ l.length → P (l.take n) := by
    intro n
    induction n with
    | zero => intro _; simpa using h0
    | succ n ih =>
      intro hn
      have hx := List.getElem?_eq_getElem (show n < l.length by omega)
      rw [List.take_add_one, hx]
      exact h1 _ _ (ih (by omega))
  have := this l.length (Nat.le_refl _)
  rwa [List.take_length] at this
theorem yq5 {α : Type} {l : List (List α)} {n : Nat} (h : l.length = n) : l = (List.range n).map fun k => l.getD k [] := by
  subst h
  apply List.ext_getElem?
  intro i
  by_cases hi : i < l.length
  · simp [hi]
  · rw [List.getElem?_eq_none (by omega), List.getElem?_eq_none (by simp; omega)]
end Go.Sx.Srt
namespace Go.Sx.Plt
def zn8 (t : Int) : List Sh → Int
  | [] => 0
  | s :: r => max 0 (s.t - max s.f t) + zn8 t r
theorem yj5 (t : Int) (s : Sh) : ∀ l : List Sh, zn8 t (l ++ [s]) = zn8 t l + max 0 (s.t - max s.f t)
  | [] => by simp [zn8]
  | a :: r => by rw [List.cons_append, zn8, zn8, yj5 t s r]; omega
def nb (l : List UInt8) (i : Nat) : Int := if l.length = 0 then 0 else ((l.getD (i % l.length) 0).toNat : Int)
end Go.Sx.Plt
namespace Go.Sx.Plt
def ze1 (items : List Item) (s : Int × Int) : List Int := if s.1 = 0 then (items.filter fun x => x.batch = s.2).map Item.id else []
def zM3 (s : Int × Int) (r : Run) : List Int := if r.pass = s.1 ∧ s.2 < r.res.stackers.length then r.res.stackers.getD s.2.toNat [] else []
def yb6 (items : List Item) (runs : List Run) (src : List (Int × Int)) : List Int := src.flatMap fun s => ze1 items s ++ runs.flatMap (zM3 s)
theorem ya2 {items : List Item} {s : Int × Int} {j : Nat} {x : Item} (h : items[j]? = some x) : ze1 (items.take (j + 1)) s = ze1 (items.take j) s ++ if s.1 = 0 ∧ x.batch = s.2 then [x.id] else [] := by
  rw [Go.Proofs.Ytdahckhlfldkkaa.take_snoc h]
  unfold ze1
  by_cases h0 : s.1 = 0
  · rw [if_pos h0, if_pos h0, List.filter_append, List.map_append]
    by_cases h1 : x.batch = s.2
    · rw [if_pos ⟨h0, h1⟩]; simp [h1]
    · rw [if_neg (fun e => h1 e.2)]; simp [h1]
  · rw [if_neg h0, if_neg h0, if_neg (fun e => h0 e.1)]; rfl
theorem zT4 {α β : Type} {l : List α} {j : Nat} {x : α} (f : α → List β) (h : l[j]? = some x) : (l.take (j + 1)).flatMap f = (l.take j).flatMap f ++ f x := by
  rw [Go.Proofs.Ytdahckhlfldkkaa.take_snoc h, List.flatMap_append]; simp
end Go.Sx.Plt
namespace Go.Sx.Plt
open Go.Proofs.Ytdahckhlfldkkaa (zh5 psF tkF zl3 zi7)
theorem zy2 {rel : Int} : ∀ {l : List Sh} {left : Int}, 0 ≤ left → zb8 (g9 rel left l) = min left (zn8 rel l)
  | [], left, h => by simp [g9, zb8, zn8]; omega
  | s :: r, left, h => by
    have hh : 0 ≤ zn8 rel r := by
      have : ∀ l : List Sh, 0 ≤ zn8 rel l := by
        intro l
        induction l with
        | nil => simp [zn8]
        | cons a l ih => rw [zn8]; omega
      exact this r
    rw [g9, zn8]
    by_cases hc : left = 0 ∨ s.t ≤ max s.f rel
    · rw [if_pos hc, zy2 h]
      rcases hc with h0 | h0 <;> omega
    · rw [if_neg hc, zb8, zy2 (by omega)]
      dsimp only
      omega
def Chain : Int → List (Int × Int) → Prop
  | _, [] => True
  | e, s :: r => (e ≤ s.1 ∧ s.1 < s.2) ∧ Chain s.2 r
theorem Chain.mono : ∀ {l : List (Int × Int)} {e e' : Int}, e' ≤ e → Chain e l → Chain e' l
  | [], _, _, _, _ => trivial
  | s :: r, e, e', h, hc => ⟨by have := hc.1; omega, hc.2⟩
theorem zz8 {rel : Int} : ∀ {l : List Sh} {left b : Int} {i : Nat}, 0 ≤ left → zi8 b i l = none → Chain (max b rel) (g9 rel left l)
  | [], _, _, _, _, _ => trivial
  | s :: r, left, b, i, h, hw => by
    rw [zi8] at hw
    split at hw
    · rename_i hs
      unfold Sh.ok at hs
      rw [g9]
      by_cases hc : left = 0 ∨ s.t ≤ max s.f rel
      · rw [if_pos hc]
        exact Chain.mono (by omega) (zz8 h hw)
      · rw [if_neg hc]
        refine ⟨by dsimp only; omega, ?_⟩
        dsimp only
        by_cases hl : left - (min s.t (max s.f rel + left) - max s.f rel) = 0
        · rw [hl]
          have : ∀ l : List Sh, g9 rel 0 l = [] := by
            intro l
            induction l with
            | nil => rfl
            | cons a l ih => rw [g9, if_pos (.inl rfl), ih]
          rw [this]; trivial
        · have hm : min s.t (max s.f rel + left) = s.t := by omega
          rw [hm]
          exact Chain.mono (by omega) (zz8 (by omega) hw)
    · cases hw
theorem zv8 {rel : Int} : ∀ {l : List Sh} {left : Int}, 0 ≤ left → ∀ s ∈ g9 rel left l, ∃ h ∈ l, h.f ≤ s.1 ∧ s.2 ≤ h.t
  | [], _, _, s, hs => by simp [g9] at hs
  | a :: r, left, h, s, hs => by
    rw [g9] at hs
    split at hs
    · obtain ⟨x, hx, h1⟩ := zv8 h s hs
      exact ⟨x, List.mem_cons_of_mem _ hx, h1⟩
    · rcases List.mem_cons.1 hs with rfl | hs
      · exact ⟨a, List.mem_cons_self, by dsimp only; omega, by dsimp only; omega⟩
      · obtain ⟨x, hx, h1⟩ := zv8 (by omega) s hs
        exact ⟨x, List.mem_cons_of_mem _ hx, h1⟩
theorem zH8 {k n : Int} {r : Int} (hr : 1 ≤ r) : k < (n + r - 1) / r ↔ k * r < n := by
  have h1 : k + 1 ≤ (n + r - 1) / r ↔ (k + 1) * r ≤ n + r - 1 := Int.le_ediv_iff_mul_le (by omega)
  have h2 : (k + 1) * r = k * r + r := by rw [Int.add_mul, Int.one_mul]
  rw [h2] at h1
  omega
theorem yl9 {k v : Int} : ∀ l : List Row, asF k (zg9 l) = some v → ∃ e ∈ l, e.stop = k ∧ e.st = v := by
  refine fun l => zn0 (p := fun l => asF k (zg9 l) = some v → ∃ e ∈ l, e.stop = k ∧ e.st = v) (fun h => by simp [zg9, asF] at h) (fun l e ih h => ?_) l
  rw [zv6, zj9] at h
  by_cases hk : e.stop = k
  · rw [if_pos hk] at h
    exact ⟨e, by simp, hk, by simpa using h⟩
  · rw [if_neg hk] at h
    obtain ⟨x, hx, h1⟩ := ih h
    exact ⟨x, List.mem_append.2 (.inl hx), h1⟩
theorem zX1 {n : Int} : ∀ {l : List Row} {met : List Int}, zf6 n met l → ∀ e ∈ l, 0 ≤ e.st ∧ e.st < n
  | [], _, _, e, h => by simp at h
  | a :: r, met, h, e, he => by
    rcases List.mem_cons.1 he with rfl | he
    · exact h.1.2
    · exact zX1 h.2 e he
theorem zV7 (stops : List (Int × Int)) (y : za3) (x : Int) : (zb9 stops y x).item = x := by unfold zb9; split <;> rfl
theorem yB9 {stops : List (Int × Int)} {y : za3} {n : Int} (hr : zf6 n [] y.table) (hn : 0 ≤ n) (x : Int) : -1 ≤ (zb9 stops y x).st ∧ (zb9 stops y x).st < n := by
  unfold zb9
  cases ho : asF ((asF x stops).getD 0) (zg9 y.table) with
  | none => dsimp only; omega
  | some k =>
    obtain ⟨e, he, _, rfl⟩ := yl9 _ ho
    have := zX1 hr e he
    dsimp only
    split <;> omega
theorem Valid.feeds {p : g8} (hv : Valid p) {i : Nat} {h : Hall} (hi : Inv p i h) {y : za3} (hy : p.passes[i]? = some y) {m : zb6} (hm : asF y.mach (zf5 p.ms) = some (m.caps.length : Int)) {items : List Int} (hit : items = y.src.flatMap h.row) : Srt.FdsOk m.caps.length (items.map (zb9 (zc0 p.items) y)) ∧ (∀ x ∈ items, x ∈ p.items.map Item.id) ∧ items.Nodup := by
  have hs := hv.src hy
  have hcount := fun x => hi.count hs.1 (fun s hs' => (hs.2 s hs').1) x
  rw [← hit] at hcount
  have hmem : ∀ x ∈ items, x ∈ p.items.map Item.id := fun x hx => by
    have h1 := List.count_pos_iff.2 hx
    have := hcount x
    exact List.count_pos_iff.1 (by omega)
  have hnd : items.Nodup := List.nodup_iff_count.2 fun x => by
    have := hcount x
    have := List.nodup_iff_count.1 hv.ind x
    omega
  refine ⟨⟨fun f hf => ?_, ?_, ?_⟩, hmem, hnd⟩
  · obtain ⟨x, hx, rfl⟩ := List.mem_map.1 hf
    obtain ⟨z, hz, e⟩ := List.mem_map.1 (hmem x hx)
    have hok := (hv.iok z hz).1
    unfold zB5 at hok
    have hrow := (hv.pok i y hy).2.2.2
    rw [hm, Option.getD_some] at hrow
    have := yB9 (stops := zc0 p.items) hrow (by omega) x
    unfold Srt.Fd.ok
    rw [zV7]
    omega
  · rw [zy9]; exact hnd
  · rw [List.length_map]
    have := hi.len hv hs.1 (fun s hs' => (hs.2 s hs').1)
    rw [← hit] at this
    exact this
structure Ran (p : g8) (h : Hall) (m : zb6) (y : za3) (r : Run) (ready : Int) : Prop where
  take : za4 h (max y.rel ((asF m.id h.free).getD 0)) [] y.src = some (ready, r.items)
  pass : r.pass = y.id
  res : Srt.zd0 m.caps m.sweeps (r.items.map (zb9 (zc0 p.items) y)) = (r.res, 0)
  hall : (zd0 h m (zc0 p.items) y).2 = ⟨zf1 y.id 0 r.res.stackers h.rows, ze8 y.id r.fin h.ends, ze8 m.id r.fin h.free⟩
  slices : r.slices = if r.items = [] then [] else g9 ready (zb3 r.items.length m.rate) m.shifts
  enough : zb3 r.items.length m.rate ≤ zn8 ready m.shifts
  start : r.start = if r.items = [] then ready else (r.slices.headD (0, 0)).1
  fin : r.fin = if r.items = [] then ready else (r.slices.getLastD (0, 0)).2
structure yH6 (p : g8) (h : Hall) (m : zb6) (y : za3) (r : Run) : Prop where
  eq : r = missed y
  hall : (zd0 h m (zc0 p.items) y).2 = h
  why : ∀ ready items, za4 h (max y.rel ((asF m.id h.free).getD 0)) [] y.src = some (ready, items) → zn8 ready m.shifts * m.rate < items.length
theorem zB8 {n : Nat} {r : Int} (hr : 1 ≤ r) : 0 ≤ zb3 n r := Int.ediv_nonneg (by omega) (by omega)
theorem zH5 (t : Int) : ∀ l : List Sh, 0 ≤ zn8 t l
  | [] => by simp [zn8]
  | a :: r => by have := zH5 t r; rw [zn8]; omega
theorem ys4 {p : g8} (hv : Valid p) {i : Nat} {h : Hall} (hi : Inv p i h) {y : za3} (hy : p.passes[i]? = some y) {m : zb6} (hm : asF y.mach (zf5 p.ms) = some (m.caps.length : Int)) (hr : zi1 m) :
    yH6 p h m y (zd0 h m (zc0 p.items) y).1 ∨ ∃ ready, Ran p h m y (zd0 h m (zc0 p.items) y).1 ready := by
  have hrate := hr.2.1.1
  cases ht : za4 h (max y.rel ((asF m.id h.free).getD 0)) [] y.src with
  | none =>
    have e : zd0 h m (zc0 p.items) y = (missed y, h) := by unfold zd0; rw [ht]
    exact .inl ⟨by rw [e], by rw [e], fun ready items hh => by rw [ht] at hh; cases hh⟩
  | some q =>
    obtain ⟨ready, items⟩ := q
    have hit := (zi6 ht).1
    rw [List.nil_append] at hit
    obtain ⟨hfd, _, _⟩ := hv.feeds hi hy hm hit
    have hcaps : Srt.zo3 m.caps ∧ 0 ≤ m.sweeps ∧ m.sweeps ≤ 1000 := by
      have h1 := hr.2.2.1
      unfold Srt.zd0 at h1
      split at h1
      · cases h1
      · rename_i hc
        split at h1
        · cases h1
        · rename_i hs
          exact ⟨Classical.not_not.1 hc, by omega, by omega⟩
    have hres := Srt.yF4 hcaps.1 hcaps.2 hfd
    by_cases hne : items = []
    · subst hne
      have e := Go.Proofs.Ytdahckhlfldkkaa.runF_idle (stops := zc0 p.items) ht
      rw [show Srt.zd0 m.caps m.sweeps [] = _ from hres] at e
      unfold Go.Proofs.Ytdahckhlfldkkaa.tailF at e
      rw [if_neg (by simp)] at e
      refine .inr ⟨ready, ?_⟩
      rw [e]
      refine ⟨ht, rfl, hres, by rw [e], rfl, ?_, rfl, rfl⟩
      have : zb3 ([] : List Int).length m.rate = 0 := by
        unfold zb3
        exact Int.ediv_eq_zero_of_lt (by simp; omega) (by simp; omega)
      dsimp only
      rw [this]
      exact zH5 _ _
    · have hsp := zy2 (rel := ready) (l := m.shifts) (zB8 (n := items.length) hrate)
      by_cases hl : g9 ready (zb3 items.length m.rate) m.shifts = [] ∨ zb8 (g9 ready (zb3 items.length m.rate) m.shifts) < zb3 items.length m.rate
      · have e := Go.Proofs.Ytdahckhlfldkkaa.runF_late (stops := zc0 p.items) ht hne hl
        refine .inl ⟨by rw [e], by rw [e], fun r2 i2 hh => ?_⟩
        rw [ht] at hh
        cases hh
        have hn1 : 1 ≤ zb3 items.length m.rate := by
          have := List.length_pos_iff.2 hne
          unfold zb3
          exact Int.le_ediv_of_mul_le (by omega) (by omega)
        have h2 : zn8 ready m.shifts < zb3 items.length m.rate := by
          rcases hl with h0 | h0
          · rw [h0, zb8] at hsp; omega
          · omega
        exact (zH8 hrate).1 h2
      · have e := Go.Proofs.Ytdahckhlfldkkaa.runF_busy (stops := zc0 p.items) ht hne hl
        rw [hres] at e
        unfold Go.Proofs.Ytdahckhlfldkkaa.tailF at e
        rw [if_neg (by simp)] at e
        refine .inr ⟨ready, ?_⟩
        rw [e]
        refine ⟨ht, rfl, hres, by rw [e], by dsimp only; rw [if_neg hne], by dsimp only; omega, by dsimp only; rw [if_neg hne], by dsimp only; rw [if_neg hne]⟩
end Go.Sx.Plt
namespace Go.Sx.Plt
open Go.Proofs.Ytdahckhlfldkkaa (zh5 psF tkF zl3 zi7)
theorem Valid.run {p : g8} (hv : Valid p) {i : Nat} {y : za3} (hy : p.passes[i]? = some y) {r : Run} (hr : (za2 p)[i]? = some r) : ∃ (k : Nat) (m : zb6), p.ms[k]? = some m ∧ m.id = y.mach ∧ zi1 m ∧ r = (zd0 (za0 p i) m (zc0 p.items) y).1 ∧ za0 p (i + 1) = (zd0 (za0 p i) m (zc0 p.items) y).2 ∧
    asF y.mach (zf5 p.ms) = some (m.caps.length : Int) ∧ (yH6 p (za0 p i) m y r ∨ ∃ ready, Ran p (za0 p i) m y r ready) := by
  obtain ⟨k, m, h1, h2, h3, h4, h5⟩ := hv.mach hy
  have hg := zD8 hy
  rw [hr, h3] at hg
  have e : r = (zd0 (za0 p i) m (zc0 p.items) y).1 := Option.some.inj hg
  refine ⟨k, m, h1, h2, h4, e, by rw [zB2 hy, h3], h5, ?_⟩
  rw [e]
  exact ys4 hv (Inv.all hv i) hy h5 h4
theorem yE5 {p : g8} {i : Nat} {y : za3} (h : p.passes[i]? = some y) : i < p.passes.length := (List.getElem?_eq_some_iff.1 h).1
theorem Valid.get {p : g8} {i : Nat} {y : za3} (h : p.passes[i]? = some y) : ∃ r, (za2 p)[i]? = some r := ⟨_, List.getElem?_eq_getElem (by rw [zh6]; exact yE5 h)⟩
theorem zK1 {p : g8} {i : Nat} (h : p.passes[i]? = none) : za0 p (i + 1) = za0 p i := by
  unfold za0
  rw [List.take_add_one, h]; simp
theorem yp4 (b : Int) : ∀ l : List Item, (asF ((0 : Int), b) (za1 [] l)).getD [] = ze1 l (0, b) := by
  refine fun l => zn0 (p := fun l => (asF ((0 : Int), b) (za1 [] l)).getD [] = ze1 l (0, b)) (by simp [za1, asF, ze1]) (fun l x ih => ?_) l
  rw [zy6, zj9]
  unfold ze1 at ih ⊢
  rw [if_pos rfl] at ih ⊢
  rw [List.filter_append, List.map_append]
  by_cases h : x.batch = b
  · rw [if_pos (by rw [h]), Option.getD_some, h, ih]; simp [h]
  · rw [if_neg (fun e => h (Prod.mk.inj e).2), ih]; simp [h]
theorem yi6 {s : Int × Int} (h : s.1 ≠ 0) (l : List Item) : asF s (za1 [] l) = none := by
  refine zn0 (p := fun l => asF s (za1 [] l) = none) (by simp [za1, asF]) (fun l x ih => ?_) l
  rw [zy6, zj9, if_neg (fun e => h (by rw [← e]))]
  exact ih
theorem ya3 (y : za3) {s : Int × Int} (h : 0 ≤ s.2) : zM3 s (missed y) = [] := by
  unfold zM3
  rw [if_neg]
  rintro ⟨_, h2⟩
  simp [missed, Srt.M.new] at h2
  omega
theorem Valid.rows {p : g8} (hv : Valid p) {s : Int × Int} (hs : 0 ≤ s.2) : ∀ i, (za0 p i).row s = ze1 p.items s ++ ((za2 p).take i).flatMap (zM3 s)
  | 0 => by
    rw [zq6, List.take_zero, List.flatMap_nil, List.append_nil]
    unfold Hall.row zx3
    dsimp only
    by_cases h0 : s.1 = 0
    · obtain ⟨a, b⟩ := s
      dsimp only at h0
      subst h0
      exact yp4 b p.items
    · rw [yi6 h0]
      unfold ze1
      rw [if_neg h0]; rfl
  | i + 1 => by
    have ih := Valid.rows hv hs i
    cases hy : p.passes[i]? with
    | none =>
      have hl : p.passes.length ≤ i := by
        rcases Nat.lt_or_ge i p.passes.length with h | h
        · rw [List.getElem?_eq_getElem h] at hy; cases hy
        · exact h
      rw [zK1 hy, ih, List.take_of_length_le (by rw [zh6]; omega), List.take_of_length_le (by rw [zh6]; omega)]
    | some y =>
      obtain ⟨r, hr⟩ := Valid.get hy
      obtain ⟨k, m, _, _, _, hre, hh, _, hc⟩ := hv.run hy hr
      rw [zT4 _ hr, ← List.append_assoc, ← ih]
      rcases hc with hc | ⟨ready, hc⟩
      · rw [hh, hc.hall, hc.eq, ya3 y hs, List.append_nil]
      · rw [hh, hc.hall]
        unfold Hall.row
        dsimp only
        obtain ⟨a, b⟩ := s
        dsimp only at hs
        rw [zt8]
        have hidn : y.id ≠ 0 := by
          have := (hv.pok i y hy).1.2.1
          unfold zB5 at this
          omega
        unfold zM3
        rw [hc.pass]
        dsimp only
        by_cases hid : a = y.id
        · subst hid
          have h0 : asF (y.id, b) (za0 p i).rows = none := (Inv.all hv i).row_early hidn (hv.new hy)
          rw [h0]
          by_cases hb : b < (r.res.stackers.length : Int)
          · rw [if_pos ⟨rfl, by omega, by omega⟩, if_pos ⟨rfl, hb⟩]
            simp [List.getD_eq_getElem?_getD]
          · rw [if_neg (by rintro ⟨_, _, h⟩; omega), if_neg (fun h => hb h.2)]; rfl
        · rw [if_neg (fun h => hid h.1), if_neg (fun h => hid h.1.symm), List.append_nil]
theorem yl6 {ps : List (Int × Int)} {s : Int × Int} (h : zi9 ps s) : 0 ≤ s.2 := by
  unfold zi9 at h
  split at h
  · omega
  · split at h
    · exact h.elim
    · exact h.1
theorem Valid.src_nn {p : g8} (hv : Valid p) {i : Nat} {y : za3} (hy : p.passes[i]? = some y) : ∀ s ∈ y.src, 0 ≤ s.2 := fun s hs => yl6 ((zE1 (hv.pok i y hy).2.1).2 s hs).2
theorem Valid.taken' {p : g8} (hv : Valid p) {i : Nat} {y : za3} (hy : p.passes[i]? = some y) : y.src.flatMap (za0 p i).row = yb6 p.items ((za2 p).take i) y.src := by
  unfold yb6
  have : ∀ l : List (Int × Int), (∀ s ∈ l, 0 ≤ s.2) → l.flatMap (za0 p i).row = l.flatMap fun s => ze1 p.items s ++ ((za2 p).take i).flatMap (zM3 s) := by
    intro l
    induction l with
    | nil => intro _; rfl
    | cons a l ih =>
      intro h
      rw [List.flatMap_cons, List.flatMap_cons, ih fun s hs => h s (List.mem_cons_of_mem _ hs), hv.rows (h a List.mem_cons_self) i]
  exact this _ (hv.src_nn hy)
theorem Valid.taken_len {p : g8} (hv : Valid p) {i : Nat} {y : za3} (hy : p.passes[i]? = some y) : (yb6 p.items ((za2 p).take i) y.src).length ≤ 2000 := by
  rw [← hv.taken' hy]
  have hs := hv.src hy
  exact (Inv.all hv i).len hv hs.1 fun s hs' => (hs.2 s hs').1
theorem Ran.items {p : g8} {i : Nat} {m : zb6} {y : za3} {r : Run} {ready : Int} (hc : Ran p (za0 p i) m y r ready) (hv : Valid p) (hy : p.passes[i]? = some y) : r.items = yb6 p.items ((za2 p).take i) y.src := by
  have := (zi6 hc.take).1
  rw [List.nil_append] at this
  rw [this, hv.taken' hy]
theorem zy8 {x : Int} : ∀ {l : List (List Int)} {k : Nat}, (l.getD k []).count x ≤ l.flatten.count x
  | [], k => by simp
  | a :: r, 0 => by rw [List.flatten_cons, List.count_append]; simp
  | a :: r, k + 1 => by
    have := zy8 (x := x) (l := r) (k := k)
    rw [List.flatten_cons, List.count_append]
    simp only [List.getD_cons_succ]
    omega
end Go.Sx.Plt
namespace Go.Sx.Plt
open Go.Proofs.Ytdahckhlfldkkaa (zh5 psF tkF zl3 zi7)
theorem Ran.stk_len {p : g8} {h : Hall} {m : zb6} {y : za3} {r : Run} {ready : Int} (hc : Ran p h m y r ready) : r.res.stackers.length = m.caps.length := by
  have := (zz9 hc.res).1
  rw [this]
  exact (Srt.zI2 m.caps m.sweeps _).st
def toF (l : List Row) (stop : Int) (b : Bool) : Int := if b = true then (asF stop (zg9 l)).getD (-1) else -1
theorem yn6 {stops : List (Int × Int)} {y : za3} {x s : Int} (h : asF x stops = some s) : (zb9 stops y x).st = toF y.table s (decide (x ∉ y.unread)) := by
  unfold zb9 toF
  rw [h, Option.getD_some]
  by_cases hu : x ∈ y.unread
  · rw [if_neg (by simp [hu])]
    split
    · simp [hu]
    · rfl
  · rw [if_pos (by simp [hu])]
    split
    · rename_i k hk; rw [hk]; simp [hu]
    · rename_i hk; rw [hk]; rfl
theorem Ran.mem {p : g8} (hv : Valid p) {i : Nat} {y : za3} (hy : p.passes[i]? = some y) {m : zb6} (hm : asF y.mach (zf5 p.ms) = some (m.caps.length : Int)) {r : Run} {ready : Int} (hc : Ran p (za0 p i) m y r ready) : (∀ x ∈ r.items, x ∈ p.items.map Item.id) ∧ r.items.Nodup ∧ r.items.length ≤ 2000 := by
  have e := (zi6 hc.take).1
  rw [List.nil_append] at e
  obtain ⟨_, h1, h2⟩ := hv.feeds (Inv.all hv i) hy hm e
  exact ⟨h1, h2, by rw [hc.items hv hy]; exact hv.taken_len hy⟩
theorem Ran.fin_bd {p : g8} (hv : Valid p) {i : Nat} {y : za3} (hy : p.passes[i]? = some y) {m : zb6} (hm : zi1 m) {r : Run} {ready : Int} (hc : Ran p (za0 p i) m y r ready) : (0 ≤ ready ∧ ready ≤ 1051898399) ∧ 0 ≤ r.fin ∧ r.fin ≤ 1051898399 := by
  have hrd := (Inv.all hv i).ready (hv.pok i y hy).1.2.2 hc.take
  refine ⟨hrd, (Inv.all hv i).fin (start := r.start) (sl := r.slices) hv hy hm hc.take ?_⟩
  by_cases hne : r.items = []
  · exact .inl ⟨hne, by rw [hc.slices, if_pos hne], by rw [hc.start, if_pos hne], by rw [hc.fin, if_pos hne]⟩
  · have hsl := hc.slices
    have hst := hc.start
    have hfi := hc.fin
    rw [if_neg hne] at hsl hst hfi
    have hsp := zy2 (rel := ready) (l := m.shifts) (zB8 (n := r.items.length) hm.2.1.1)
    have he := hc.enough
    have hn1 : 1 ≤ zb3 r.items.length m.rate := by
      have := List.length_pos_iff.2 hne
      have := hm.2.1.1
      unfold zb3
      exact Int.le_ediv_of_mul_le (by omega) (by omega)
    refine .inr ⟨hne, hsl, fun h0 => ?_, by rw [hsl, hsp]; omega, hst, hfi⟩
    rw [← hsl, h0, zb8] at hsp
    omega
end Go.Sx.Plt
namespace Go.Sx.Plt
open Go.Proofs.Ytdahckhlfldkkaa (zh5 psF tkF zl3 zi7)
def zN3 (e : Int) (l : List (Int × Int)) : Int := match l.getLast? with
  | some s => s.2
  | none => e
theorem zH0 (e : Int) : zN3 e [] = e := rfl
theorem yq1 (e : Int) {l : List (Int × Int)} (h : l ≠ []) : zN3 e l = (l.getLastD (0, 0)).2 := by
  unfold zN3
  rw [List.getLastD_eq_getLast?]
  cases hl : l.getLast? with
  | none => rw [List.getLast?_eq_none_iff] at hl; exact (h hl).elim
  | some s => rfl
theorem yc8 : ∀ {l : List (Int × Int)} {e : Int} {j : Nat} {s : Int × Int}, Chain e l → l[j]? = some s → zN3 e (l.take j) ≤ s.1 ∧ s.1 < s.2
  | [], _, _, _, _, h => by simp at h
  | a :: r, e, 0, s, hc, h => by
    simp at h; subst h
    rw [List.take_zero, zH0]; exact hc.1
  | a :: r, e, j + 1, s, hc, h => by
    have h' : r[j]? = some s := by simpa using h
    have ih := yc8 hc.2 h'
    rw [List.take_succ_cons]
    have : zN3 e (a :: r.take j) = zN3 a.2 (r.take j) := by
      unfold zN3
      rw [List.getLast?_cons]
      cases (r.take j).getLast? <;> rfl
    rw [this]; exact ih
theorem zV2 : ∀ {l : List (Int × Int)} {e : Int}, Chain e l → e ≤ zN3 e l
  | [], e, _ => by rw [zH0]; omega
  | a :: r, e, hc => by
    have ih := zV2 hc.2
    have : zN3 e (a :: r) = zN3 a.2 r := by
      unfold zN3
      rw [List.getLast?_cons]
      cases r.getLast? <;> rfl
    rw [this]
    have := hc.1
    omega
theorem Ran.chain {p : g8} {h : Hall} {m : zb6} {y : za3} {r : Run} {ready : Int} (hc : Ran p h m y r ready) (hm : zi1 m) : Chain ready r.slices ∧ (∀ s ∈ r.slices, ∃ x ∈ m.shifts, x.f ≤ s.1 ∧ s.2 ≤ x.t) ∧ zb8 r.slices = zb3 r.items.length m.rate ∧ r.fin = zN3 ready r.slices ∧ ((r.slices = [] ∧ r.start = ready) ∨ ∃ s, r.slices[0]? = some s ∧ r.start = s.1) ∧ ready ≤ r.start := by
  have hw := (zz5 hm).2
  have hn0 := zB8 (n := r.items.length) hm.2.1.1
  have hch := Chain.mono (show ready ≤ max 0 ready by omega) (zz8 (rel := ready) hn0 hw)
  have hsl := hc.slices
  have hst := hc.start
  have hfi := hc.fin
  by_cases hne : r.items = []
  · rw [if_pos hne] at hsl hst hfi
    have hz : zb3 r.items.length m.rate = 0 := by
      rw [hne]
      unfold zb3
      have := hm.2.1.1
      exact Int.ediv_eq_zero_of_lt (by simp; omega) (by simp; omega)
    rw [hsl, hz]
    exact ⟨trivial, by simp, rfl, by rw [zH0]; exact hfi, .inl ⟨rfl, hst⟩, by omega⟩
  · rw [if_neg hne] at hsl hst hfi
    have hsp := zy2 (rel := ready) (l := m.shifts) hn0
    have he := hc.enough
    have hn1 : 1 ≤ zb3 r.items.length m.rate := by
      have := List.length_pos_iff.2 hne
      have := hm.2.1.1
      unfold zb3
      exact Int.le_ediv_of_mul_le (by omega) (by omega)
    rw [← hsl] at hsp hch
    have hnn : r.slices ≠ [] := fun h0 => by rw [h0, zb8] at hsp; omega
    obtain ⟨s, l, e⟩ := List.exists_cons_of_ne_nil hnn
    have h0 : r.slices[0]? = some s := by rw [e]; rfl
    have hs1 : r.start = s.1 := by rw [hst, e]; rfl
    refine ⟨hch, fun s hs => ?_, by rw [hsp]; omega, by rw [yq1 _ hnn]; exact hfi, .inr ⟨s, h0, hs1⟩, ?_⟩
    · rw [hsl] at hs
      exact zv8 hn0 s hs
    · have := yc8 hch h0
      rw [List.take_zero, zH0] at this
      omega
theorem Ran.fin_ge {p : g8} {h : Hall} {m : zb6} {y : za3} {r : Run} {ready : Int} (hc : Ran p h m y r ready) (hm : zi1 m) : ready ≤ r.fin := by
  obtain ⟨h1, _, _, h4, _⟩ := hc.chain hm
  rw [h4]; exact zV2 h1
def zx0 (p : g8) (j : Nat) : Int := match (za2 p)[j]? with
  | some r => r.fin
  | none => -1
theorem zN8 {p : g8} {j : Nat} {r : Run} (h : (za2 p)[j]? = some r) : zx0 p j = r.fin := by unfold zx0; rw [h]
theorem zJ9 {p : g8} (hv : Valid p) : ∀ (i : Nat) (id e : Int), asF id (za0 p i).ends = some e ↔ ∃ (j : Nat) (y : za3), j < i ∧ p.passes[j]? = some y ∧ y.id = id ∧ zx0 p j = e ∧ 0 ≤ e
  | 0, id, e => by
    rw [zq6]
    simp [zx3, asF]
  | i + 1, id, e => by
    have ih := zJ9 hv i id e
    cases hy : p.passes[i]? with
    | none =>
      rw [zK1 hy, ih]
      constructor
      · rintro ⟨j, y, h1, h2⟩; exact ⟨j, y, by omega, h2⟩
      · rintro ⟨j, y, h1, h2, h3⟩
        by_cases hj : j = i
        · subst hj; rw [hy] at h2; cases h2
        · exact ⟨j, y, by omega, h2, h3⟩
    | some y =>
      obtain ⟨r, hr⟩ := Valid.get hy
      obtain ⟨k, m, _, _, hmr, hre, hh, _, hc⟩ := hv.run hy hr
      have hfr := zN8 hr
      rcases hc with hc | ⟨ready, hc⟩
      · have hf : zx0 p i = -1 := by rw [hfr, hc.eq]; rfl
        rw [hh, hc.hall, ih]
        constructor
        · rintro ⟨j, y', h1, h2⟩; exact ⟨j, y', by omega, h2⟩
        · rintro ⟨j, y', h1, h2, h3, h4, h5⟩
          by_cases hj : j = i
          · subst hj; omega
          · exact ⟨j, y', by omega, h2, h3, h4, h5⟩
      · have hfb := (hc.fin_bd hv hy hmr).2
        rw [hh, hc.hall]
        dsimp only
        rw [zj9]
        by_cases hid : y.id = id
        · rw [if_pos hid]
          constructor
          · intro he; exact ⟨i, y, by omega, hy, hid, by rw [hfr]; exact Option.some.inj he, by have := Option.some.inj he; omega⟩
          · rintro ⟨j, y', h1, h2, h3, h4, h5⟩
            by_cases hj : j = i
            · subst hj; rw [← h4, hfr]
            · exact (hv.new hy ⟨j, y', by omega, h2, by rw [h3, hid]⟩).elim
        · rw [if_neg hid, ih]
          constructor
          · rintro ⟨j, y', h1, h2⟩; exact ⟨j, y', by omega, h2⟩
          · rintro ⟨j, y', h1, h2, h3, h4⟩
            by_cases hj : j = i
            · subst hj; rw [hy] at h2; cases h2; exact (hid h3).elim
            · exact ⟨j, y', by omega, h2, h3, h4⟩
theorem zC9 {h : Hall} : ∀ {l : List (Int × Int)} {r0 ready : Int} {acc items : List Int}, za4 h r0 acc l = some (ready, items) → r0 ≤ ready ∧ (∀ s ∈ l, s.1 ≠ 0 → ∃ e, asF s.1 h.ends = some e ∧ e ≤ ready) ∧ (ready = r0 ∨ ∃ s ∈ l, s.1 ≠ 0 ∧ asF s.1 h.ends = some ready)
  | [], r0, ready, acc, items, hh => by
    simp only [za4, Option.some.injEq, Prod.mk.injEq] at hh
    exact ⟨by omega, by simp, .inl hh.1.symm⟩
  | (s1, s2) :: l, r0, ready, acc, items, hh => by
    rw [za4] at hh
    by_cases h0 : s1 = 0
    · subst h0
      rw [if_neg (by simp)] at hh
      obtain ⟨h1, h2, h3⟩ := zC9 hh
      refine ⟨h1, fun s hs hs0 => ?_, h3.imp id fun ⟨s, hs, h⟩ => ⟨s, List.mem_cons_of_mem _ hs, h⟩⟩
      rcases List.mem_cons.1 hs with rfl | hs
      · exact (hs0 rfl).elim
      · exact h2 s hs hs0
    · rw [if_pos h0] at hh
      cases he : asF s1 h.ends with
      | none => simp only [he] at hh; cases hh
      | some e =>
        simp only [he] at hh
        obtain ⟨h1, h2, h3⟩ := zC9 hh
        have m1 : r0 ≤ max r0 e := Int.le_max_left r0 e
        have m2 : e ≤ max r0 e := Int.le_max_right r0 e
        refine ⟨Int.le_trans m1 h1, fun s hs hs0 => ?_, ?_⟩
        · rcases List.mem_cons.1 hs with rfl | hs
          · exact ⟨e, he, Int.le_trans m2 h1⟩
          · exact h2 s hs hs0
        · rcases h3 with h3 | ⟨s, hs, h3⟩
          · by_cases hm : e ≤ r0
            · exact .inl (by rw [h3]; exact Int.max_eq_left hm)
            · exact .inr ⟨(s1, s2), List.mem_cons_self, h0, by rw [he, h3]; congr 1; exact (Int.max_eq_right (by omega)).symm⟩
          · exact .inr ⟨s, List.mem_cons_of_mem _ hs, h3⟩
theorem free_spec {p : g8} (hv : Valid p) : ∀ (i : Nat) (mid : Int), 0 ≤ (asF mid (za0 p i).free).getD 0 ∧ (∀ (j : Nat) (y : za3), j < i → p.passes[j]? = some y → y.mach = mid → zx0 p j ≤ (asF mid (za0 p i).free).getD 0) ∧
    ((asF mid (za0 p i).free).getD 0 = 0 ∨ ∃ (j : Nat) (y : za3), j < i ∧ p.passes[j]? = some y ∧ y.mach = mid ∧ zx0 p j = (asF mid (za0 p i).free).getD 0)
  | 0, mid => by
    rw [zq6]
    refine ⟨by simp [zx3, asF], fun j y h => by omega, .inl (by simp [zx3, asF])⟩
  | i + 1, mid => by
    obtain ⟨a1, a2, a3⟩ := free_spec hv i mid
    cases hy : p.passes[i]? with
    | none =>
      rw [zK1 hy]
      refine ⟨a1, fun j y h1 h2 h3 => ?_, a3.imp id fun ⟨j, y, h1, h2⟩ => ⟨j, y, by omega, h2⟩⟩
      by_cases hj : j = i
      · subst hj; rw [hy] at h2; cases h2
      · exact a2 j y (by omega) h2 h3
    | some y =>
      obtain ⟨r, hr⟩ := Valid.get hy
      obtain ⟨k, m, hmk, hmid, hmr, hre, hh, _, hc⟩ := hv.run hy hr
      have hfr := zN8 hr
      rcases hc with hc | ⟨ready, hc⟩
      · have hf : zx0 p i = -1 := by rw [hfr, hc.eq]; rfl
        rw [hh, hc.hall]
        refine ⟨a1, fun j y' h1 h2 h3 => ?_, a3.imp id fun ⟨j, y, h1, h2⟩ => ⟨j, y, by omega, h2⟩⟩
        by_cases hj : j = i
        · subst hj; omega
        · exact a2 j y' (by omega) h2 h3
      · have hfb := (hc.fin_bd hv hy hmr).2
        have hge := hc.fin_ge hmr
        have hrd := (zC9 hc.take).1
        rw [hh, hc.hall]
        dsimp only
        rw [zj9]
        by_cases hid : m.id = mid
        · rw [if_pos hid, Option.getD_some]
          rw [hid] at hrd
          refine ⟨hfb.1, fun j y' h1 h2 h3 => ?_, .inr ⟨i, y, by omega, hy, by rw [← hmid]; exact hid, hfr⟩⟩
          by_cases hj : j = i
          · subst hj; omega
          · have := a2 j y' (by omega) h2 h3; omega
        · rw [if_neg hid]
          refine ⟨a1, fun j y' h1 h2 h3 => ?_, a3.imp id fun ⟨j, y, h1, h2⟩ => ⟨j, y, by omega, h2⟩⟩
          by_cases hj : j = i
          · subst hj; rw [hy] at h2; cases h2; exact (hid (by rw [hmid]; exact h3)).elim
          · exact a2 j y' (by omega) h2 h3
def yz5 (src : List (Int × Int)) (id : Int) : Bool := src.any fun s => s.1 = id
def rdF (p : g8) (y : za3) : Nat → Int × Bool
  | 0 => (y.rel, true)
  | j + 1 => match p.passes[j]? with
    | some z => (if yz5 y.src z.id = true ∨ z.mach = y.mach then max (rdF p y j).1 (zx0 p j) else (rdF p y j).1, (rdF p y j).2 && (!yz5 y.src z.id || decide (0 ≤ zx0 p j)))
    | none => rdF p y j
theorem fin_bd {p : g8} (hv : Valid p) (j : Nat) : -1 ≤ zx0 p j ∧ zx0 p j ≤ 1051898399 := by
  unfold zx0
  cases hr : (za2 p)[j]? with
  | none => dsimp only; omega
  | some r =>
    dsimp only
    obtain ⟨y, hy⟩ : ∃ y, p.passes[j]? = some y := ⟨_, List.getElem?_eq_getElem (by have := (List.getElem?_eq_some_iff.1 hr).1; rw [zh6] at this; exact this)⟩
    obtain ⟨k, m, _, _, hmr, _, _, _, hc⟩ := hv.run hy hr
    rcases hc with hc | ⟨ready, hc⟩
    · rw [hc.eq]; show -1 ≤ (-1 : Int) ∧ (-1 : Int) ≤ 1051898399; omega
    · have := (hc.fin_bd hv hy hmr).2; omega
theorem zY3 : ∀ {l : List Sh} {b : Int} {i : Nat}, 0 ≤ b → zi8 b i l = none → ∀ s ∈ l, 0 ≤ s.f ∧ s.f < s.t ∧ s.t ≤ 1051898399
  | [], _, _, _, _, s, hs => by simp at hs
  | a :: r, b, i, hb, h, s, hs => by
    rw [zi8] at h
    split at h
    · rename_i ha
      unfold Sh.ok at ha
      rcases List.mem_cons.1 hs with rfl | hs
      · omega
      · exact zY3 (by omega) h s hs
    · cases h
def yL9 (sf su : Int) (l : List Sh) : Bool := l.any fun h => decide (h.f ≤ sf ∧ su ≤ h.t)
end Go.Sx.Plt
