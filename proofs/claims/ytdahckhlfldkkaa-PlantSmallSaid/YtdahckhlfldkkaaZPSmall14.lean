/- A part of the proofs of this seat: a small logic of walks, plain laws, and what some of the program's functions compute, shown by walks through their code. Conditions: the hypotheses that each theorem names. -/
import Derived.Test.YtdahckhlfldkkaaZPSmall3
import Derived.Test.YtdahckhlfldkkaaZPSmall13
import Derived.Test.YtdahckhlfldkkaaZPSmall10
set_option linter.unusedSimpArgs false
set_option linter.unusedVariables false
set_option linter.unusedSectionVars false
namespace Go.Sx
open Go Go.RowKit
section
variable {P : Program} {n : Nat} {D : List Deferred} {w0 : World} {F : List (Nat × Value)} {L L0 : List Ent} {Q : Exit → Act → World → Prop} {lq : List Oper} {fq mq : Nat} {d : Tmp} {ty : TypeId} {pos : String} {af : Array Edge}
theorem yI0 {x y : Operand} {m l v : Int} {t u : TypeId} (hx : ev F x = some (.int .i64 m)) (hy : ev F y = some (.int .i64 l)) (e : m - l = v) (hr : -9223372036854775808 ≤ v ∧ v ≤ 9223372036854775807) (hd : Nat.ble (d + 1) n = true)
    (h : St n D w0 ((d, .int .i64 v) :: F) L (WB P lq w0 L0 Q fq mq)) : St n D w0 F L (WF P lq w0 L0 Q fq mq (⟨some d, .binOp .sub t x y u, ty, pos, af, none⟩)) := by
  subst e; exact yG6 hx hy hd hr h
end
end Go.Sx
namespace Go.Proofs.Ytdahckhlfldkkaa
open Go Go.Sx Go.RowKit
attribute [local irreducible] WL WC WQ WR WB WF QB St Exit.then Exit.inBlock Exit.noGoto bodyPost roundPost zc1 YR RG BM Calls B zc7 ze3
theorem yA1 {cv fv : Value} {caps : List Int} {s : Int} {l : List Srt.Fd} {m : Srt.M} {k : Int} (he : Srt.zd0 caps s l = (m, k)) (w : World) (h : SV w 1 encI cv caps) (hl : SV w 2 zo0 fv l) :
    Calls Try.prog 31 #[cv, .int .i64 s, fv] w fun e w' => ∃ v N, e = .returned v ∧ (∃ a1 c1 a2 c2 a3 c3 a4 c4 a5 c5 ss N1 M1 N2 N3 N4 N5, v = .tuple #[.agg #[.slice a1 m.stackers.length c1, .slice a2 m.swept.length c2, .slice a3 m.over.length c3, .slice a4 m.rej.length c4, .slice a5 m.evs.length c5], .int .i64 k] ∧
      OW 44 1 encS (.slice a1 m.stackers.length c1) ss N1 ∧ LL 3 1 encI ss m.stackers M1 ∧ OW 3 1 encI (.slice a2 m.swept.length c2) m.swept N2 ∧ OW 3 1 encI (.slice a3 m.over.length c3) m.over N3 ∧ OW 3 1 encI (.slice a4 m.rej.length c4) m.rej N4 ∧ OW 174 3 zp1 (.slice a5 m.evs.length c5) m.evs N5 ∧
      N = N1 ++ (M1 ++ (N2 ++ (N3 ++ (N4 ++ N5)))) ∧ ∀ x ∈ N, x.own = true) ∧ Rep w w' N ∧ ∀ x ∈ N, x.own = true :=
  (zO3 he w h hl).mono fun e w' ⟨v, N, h1, h2, h3, h4⟩ => by
    obtain ⟨a1, n1, c1, a2, n2, c2, a3, n3, c3, a4, n4, c4, a5, n5, c5, rfl, hX, oX⟩ := h2
    obtain ⟨b1, d1, b2, d2, b3, d3, b4, d4, b5, d5, ss, N1, M1, N2, N3, N4, N5, e, g1, g2, g3, g4, g5, g6, hN⟩ := hX
    exact ⟨_, N, h1, ⟨b1, d1, b2, d2, b3, d3, b4, d4, b5, d5, ss, N1, M1, N2, N3, N4, N5, by rw [e], g1, g2, g3, g4, g5, g6, hN, oX⟩, h3, h4⟩
theorem zR9 {v : Value} {l : List Plt.Sh} {id t need : Int} {L : List (Int × Int)} {b : Bool} (hL : Plt.g9 t need l = L) (hb0 : decide (need ≤ Plt.zb8 L) = b) (w : World) (h : SV w 2 zs8 v l) (hl : l.length ≤ 200) (hb : ∀ s ∈ l, 0 ≤ s.f ∧ s.f < s.t ∧ s.t ≤ 1051898399) (ht : 0 ≤ t ∧ t ≤ 1051898399) (hn : 0 ≤ need ∧ need ≤ 100000) :
    Calls Try.prog 53 #[v, .int .i64 id, .int .i64 t, .int .i64 need] w fun e w' => ∃ v N, e = .returned v ∧ yL7 id L b v N ∧ Rep w w' N ∧ ∀ x ∈ N, x.own = true := by
  subst hL; subst hb0; exact zU2 id t need w h hl hb ht hn
theorem yf6 {q : PlD} {p : Plt.g8} {i : Nat} {y : Plt.za3} {d : PD} {k : Nat} {z : Plt.Item} {st : Int} (hst : (Plt.zb9 (Plt.zc0 p.items) y z.id).st = st) (hv : Plt.Valid p) (hy : p.passes[i]? = some y) (hz : p.items[k]? = some z) (w : World) (h : PlV w q p) (hd : PassV w d y) :
    Calls Try.prog 54 #[plV q, .agg #[.int .i64 d.id, .int .i64 d.mach, .int .i64 d.rel, sdV d.src, sdV d.table, sdV d.unread], .int .i64 z.id] w fun e w' => e = .returned (.int .i64 st) ∧ Below w.heap.size w w' := by
  subst hst; exact zS0 hv hy hz w h hd
def yL6 (r : Plt.Run) (v : Value) (N : List Ent) : Prop := ∃ d, v = zA5 d ∧ Shw N (fun w => RunV w d r) ∧ ∀ x ∈ N, x.own = true
theorem zQ5 {p : Plt.g8} (hn : (p.ms.map Plt.zb6.id).Nodup) {k : Nat} {m : Plt.zb6} {x : Int} (hm : p.ms[k]? = some m) (hx : m.id = x) : Plt.zj4 x (p.ms.map Plt.zb6.id) = (k : Int) := by
  have hmm : (p.ms.map Plt.zb6.id)[k]? = some x := by rw [List.getElem?_map, hm, ← hx]; rfl
  rw [Plt.zB6 hmm]
  intro hh
  obtain ⟨n, hn'⟩ := List.getElem?_of_mem hh
  have hnl := (List.getElem?_eq_some_iff.1 hn').1
  rw [List.length_take] at hnl
  rw [List.getElem?_take_of_lt (by omega)] at hn'
  have := (List.getElem?_inj (List.getElem?_eq_some_iff.1 hn').1 hn).1 (hn'.trans hmm.symm)
  omega
theorem zE5 (f : Int × Int → List Int) (l : List (Int × Int)) (k : Nat) : ((l.take k).flatMap f).length ≤ (l.flatMap f).length := by
  conv => rhs; rw [← List.take_append_drop k l, List.flatMap_append, List.length_append]
  omega
set_option maxHeartbeats 64000000 in
set_option maxRecDepth 100000 in
theorem yk8 {q : PlD} {p : Plt.g8} {i : Nat} {y : Plt.za3} {r : Plt.Run} {ar : Option Addr} {cr : Nat} {rds : List RD} (hv : Plt.Valid p) (hy : p.passes[i]? = some y) (hr : (Plt.za2 p)[i]? = some r) (w : World) (h : PlV w q p) (hR : RunsV w (.slice ar i cr) rds ((Plt.za2 p).take i)) :
    Calls Try.prog 38 #[plV q, .slice ar i cr, .int .i64 i] w fun e w' => ∃ v N, e = .returned v ∧ yL6 r v N ∧ Rep w w' N ∧ ∀ x ∈ N, x.own = true := by
  have hV := h
  obtain ⟨⟨a1, n1, c1⟩, ⟨a2, n2, c2⟩, ⟨a3, n3, c3⟩, ds, ys⟩ := q
  obtain ⟨hM, hI, hP, lm, lp, hmach, hpass⟩ := h
  dsimp only [sdV, plV] at hM hI hP lm lp hmach hpass ⊢
  obtain ⟨_, _, e1, hc1, hop1⟩ := hM.open
  cases e1
  obtain ⟨_, _, e2, hc2, hop2⟩ := hI.open
  cases e2
  obtain ⟨_, _, e3, hc3, hop3⟩ := hP.open
  cases e3
  rw [lm] at hc1 hop1 hM hV ⊢
  rw [lp] at hc3 hop3 hP hV ⊢
  have hil := (List.getElem?_eq_some_iff.1 hy).1
  have hpl := Plt.zh6 p
  have hsmall := hv.small
  obtain ⟨d, hd⟩ : ∃ d, ys[i]? = some d := ⟨_, List.getElem?_eq_getElem (by omega)⟩
  have hPV := hpass i d y hd hy
  obtain ⟨x1, k1, x2, k2, x3, k3, rfl⟩ := hPV.eqs
  have hPV' := hPV
  obtain ⟨-, -, -, hsrc, htab, hunr⟩ := hPV
  dsimp only [sdV] at hsrc htab hunr
  obtain ⟨_, _, e4, hc4, hop4⟩ := hsrc.open
  cases e4
  obtain ⟨bp, op, ccp, ep, fzp, rfl, hkp, hpp⟩ := hop3 (by omega)
  have gy : ∀ j u, ([.int .i64 y.id, .int .i64 y.mach, .int .i64 y.rel, .slice x1 y.src.length k1, .slice x2 y.table.length k2, .slice x3 y.unread.length k3] : List Value)[j]? = some u → ccp[op + i * 6 + j]? = some u := hpp.get hd
  obtain ⟨mk, m, hm, hmid, hright, hreq, -, hma, hcases⟩ := hv.run hy hr
  have hmi := zQ5 hv.mnd hm hmid
  have hmkl := (List.getElem?_eq_some_iff.1 hm).1
  obtain ⟨dm, hdm⟩ : ∃ d, ds[mk]? = some d := ⟨_, List.getElem?_eq_getElem (by omega)⟩
  have hMV := hmach mk dm m hdm hm
  obtain ⟨z1, l1, z2, l2, rfl⟩ := hMV.eqs
  obtain ⟨-, -, -, hcaps, hshs⟩ := hMV
  dsimp only [sdV] at hcaps hshs
  obtain ⟨bm, om, ccm, em, fzm, rfl, hkm, hpm⟩ := hop1 (by omega)
  have gm : ∀ j u, ([.int .i64 m.id, .int .i64 m.sweeps, .int .i64 m.rate, .slice z1 m.caps.length l1, .slice z2 m.shifts.length l2] : List Value)[j]? = some u → ccm[om + mk * 5 + j]? = some u := hpm.get hdm
  have hpo := hv.pok i y hy
  have hrel := hpo.1.2.2
  have hRl : rds.length = i := by have := hR.2.1; rw [List.length_take] at this; omega
  have htl := hv.taken_len hy
  rw [← hv.taken' hy] at htl
  have hrt := hright.2.1
  refine zd8 Try.func38 rfl Try.ntmps38 rfl (Rep.start w) ?_
  repeat' (first | ((first | ((apply t8 (f := 24)); exact rfl) | ((apply t9 (f := 24)); exact rfl; kernel_rfl; exact rfl; exact sJ_)); exact eV_; exact (fun w hw => ze7 hmi w (hV.keep hw (by exact aO_)))) | ((first | apply w9 | apply y8 | apply x8 | apply p4); exact rfl; exact rfl) | (apply w7; first | refine u9 (h := ?_) | refine y9 (h := ?_) | refine w8 (h := ?_) | refine q6 (h := ?_) | refine q0 (h := ?_)) | (apply o7; exact rfl; intro _) | (apply zc5; exact rfl; exact rfl; exact rfl; intro _) | (apply q7; first | refine q8 (h := ?_) | refine q9 (h := ?_)) | (apply g7; first | refine a8 (h := ?_)) | (apply m8; infer_instance; infer_instance; exact rfl; exact rfl; (first | exact rfl | omega); exact rfl; (first | assumption | omega | decide)) | ((first | apply s9 | apply x9 | apply z8 | apply s7 | apply s8 | apply w4 | apply z9 | apply w5)) | ((first | apply w6 | apply z6 | apply z0 | apply p5 | apply y0 | apply z7)) | ((apply p6 (id := 2) []); kernel_rfl; kernel_rfl) | (apply za6; try simp only [za9, List.cons_append, List.nil_append]) | ((first | apply i9 | apply n9 | apply m5); exact rfl; exact rfl) | (apply m0; first | refine k8 (h := ?_) | refine p7 (h := ?_) | refine m6 (h := ?_) | refine d8 (h := ?_) | refine d7 (h := ?_)) | (apply zc3; infer_instance; infer_instance; exact rfl; exact rfl; (first | exact rfl | omega); exact rfl; (first | assumption | omega | decide)) | (apply zs3; first | refine zq0 (h := ?_)) | (apply zD9; exact rfl; intro _))
  rename_i b3 b6 b7 b8 b9
  obtain ⟨_, _, e7, hc7, hop7⟩ := hR.1.open
  simp only [Value.slice.injEq] at e7
  obtain ⟨rfl, -, rfl⟩ := e7
  rw [hRl] at hc7
  have hfree := Plt.yF7 hv hrel.1 i
  apply j9 (σ := Nat) (Fs := fun t => [(10, .int .i64 t), (6, ptr b6), (9, ptr b9), (8, ptr b8), (7, ptr b7), (3, ptr b3), (2, .int .i64 i), (1, .slice ar i cr)]) (Ls := fun t => ⟨b9, Ce [.int .i64 y.id, .int .i64 (Plt.stF p y t), .int .i64 0, .slice none 0 0, .slice none 0 0, .slice none 0 0, .slice none 0 0, .slice none 0 0, .slice none 0 0, .slice none 0 0] 106, true⟩ :: ⟨b7, Ce [.int .i64 y.id, .int .i64 y.mach, .int .i64 y.rel, .slice x1 y.src.length k1, .slice x2 y.table.length k2, .slice x3 y.unread.length k3] 93, true⟩ :: ⟨b8, Ce [.int .i64 m.id, .int .i64 m.sweeps, .int .i64 m.rate, .slice z1 m.caps.length l1, .slice z2 m.shifts.length l2] 85, true⟩ :: ⟨b3, Ce [.slice (some ⟨bm, om, none⟩) p.ms.length c1, .slice a2 p.items.length c2, .slice (some ⟨bp, op, none⟩) p.passes.length c3] 33, true⟩ :: ⟨b6, Ce [.int .i64 0, .int .i64 0, .int .i64 0, .slice none 0 0, .slice none 0 0, .slice none 0 0, .slice none 0 0, .slice none 0 0, .slice none 0 0, .slice none 0 0] 106, true⟩ :: []) (I := fun t => t ≤ i) (μ := fun t => i - t) (s0 := 0)
  · exact Nat.zero_le _
  · exact fS_
  · exact hS_
  intro k hk
  have hk : k ≤ i := hk
  by_cases hlt : k < i
  · obtain ⟨z, hz⟩ : ∃ z, p.passes[k]? = some z := ⟨_, List.getElem?_eq_getElem (by omega)⟩
    obtain ⟨dz, hdz⟩ : ∃ z, ys[k]? = some z := ⟨_, List.getElem?_eq_getElem (by omega)⟩
    obtain ⟨s1, o1, s2, o2, s3, o3, rfl⟩ := (hpass k dz z hdz hz).eqs
    have gz : ∀ jj u, ([.int .i64 z.id, .int .i64 z.mach, .int .i64 z.rel, .slice s1 z.src.length o1, .slice s2 z.table.length o2, .slice s3 z.unread.length o3] : List Value)[jj]? = some u → ccp[op + k * 6 + jj]? = some u := hpp.get hdz
    obtain ⟨rk, hrk⟩ : ∃ r, (Plt.za2 p)[k]? = some r := ⟨_, List.getElem?_eq_getElem (by omega)⟩
    have hrk2 : ((Plt.za2 p).take i)[k]? = some rk := by rw [List.getElem?_take_of_lt hlt]; exact hrk
    obtain ⟨bq, oq, ccq, eq_, fzq, rfl, hkq, hpq⟩ := hop7 (by omega)
    obtain ⟨_, _, y1, j1, y2, j2, y3, m3, j3, y4, m4, j4, y5, j5, y6, j6, y7, m7, j7, -, hds, hm3, -⟩ := hR.at hrk2
    have gr : ∀ jj u, ([.int .i64 rk.pass, .int .i64 rk.start, .int .i64 rk.fin, .slice y1 rk.items.length j1, .slice y2 rk.slices.length j2, .slice y3 m3 j3, .slice y4 m4 j4, .slice y5 rk.res.over.length j5, .slice y6 rk.res.rej.length j6, .slice y7 m7 j7] : List Value)[jj]? = some u → ccq[oq + k * 10 + jj]? = some u := hpq.get hds
    have hfk := Plt.zN8 hrk
    have est : Plt.stF p y (k + 1) = if z.mach = y.mach ∧ Plt.stF p y k < rk.fin then rk.fin else Plt.stF p y k := by rw [Plt.stF, hz]; dsimp only; rw [hfk]
    have hsb := Plt.yH4 hv hrel k
    generalize Plt.stF p y k = sk at est hsb ⊢
    by_cases hzm : z.mach = y.mach
    · by_cases hgt : sk < rk.fin
      · rw [if_pos ⟨hzm, hgt⟩] at est
        as_aux_lemma =>
          repeat' (first | (apply v8; exact rfl; exact dT_) | ((first | apply w9 | apply y8 | apply x8 | apply p4); exact rfl; exact rfl) | ((first | apply za7); exact rfl; exact rfl) | (apply w7; first | refine u9 (h := ?_) | refine y9 (h := ?_) | refine w8 (h := ?_) | refine q6 (h := ?_) | refine q0 (h := ?_)) | ((first | apply p3 | apply o8 | apply l0 | apply p0); exact rfl; exact rfl; exact rfl) | ((first | apply j0 | apply ze5 | apply zt7); exact rfl; exact rfl; exact rfl; (constructor <;> omega)) | (apply q7; first | refine q8 (h := ?_) | refine q9 (h := ?_)) | (apply m8; infer_instance; infer_instance; exact rfl; exact rfl; (first | exact rfl | omega); exact rfl; (first | assumption | omega | decide)) | ((first | apply s9 | apply x9 | apply z8 | apply s7 | apply s8 | apply w4 | apply z9 | apply w5)) | ((first | apply w6 | apply z6 | apply z0 | apply p5 | apply y0 | apply z7)) | ((apply p6 (id := 7) []); kernel_rfl; kernel_rfl) | (apply za6; try simp only [za9, List.cons_append, List.nil_append]) | ((first | apply i9 | apply n9 | apply m5); exact rfl; exact rfl) | ((first | apply zb4); exact rfl; exact rfl) | (apply m0; first | refine k8 (h := ?_) | refine p7 (h := ?_) | refine m6 (h := ?_) | refine d8 (h := ?_) | refine d7 (h := ?_)) | ((first | apply ze6 | apply zh4 | apply zi4 | apply ze2); exact rfl; exact rfl; exact rfl) | (apply zm8; exact rfl; exact tT_; exact rfl; exact rfl) | (apply zc3; infer_instance; infer_instance; exact rfl; exact rfl; (first | exact rfl | omega); exact rfl; (first | assumption | omega | decide)) | ((first | apply zt3); exact rfl; exact gG_))
          refine o0 (k + 1) (show k + 1 ≤ i by omega) (show i - (k + 1) < i - k by omega) ?_ ?_
          · exact fS_
          · (try dsimp only); rw [est]; exact hS_
      · rw [if_neg (fun g => hgt g.2)] at est
        as_aux_lemma =>
          repeat' (first | (apply v8; exact rfl; exact dT_) | (apply v9; exact rfl; exact dF_) | ((first | apply w9 | apply y8 | apply x8 | apply p4); exact rfl; exact rfl) | ((first | apply p3 | apply o8 | apply l0 | apply p0); exact rfl; exact rfl; exact rfl) | ((first | apply j0 | apply ze5 | apply zt7); exact rfl; exact rfl; exact rfl; (constructor <;> omega)) | ((first | apply s9 | apply x9 | apply z8 | apply s7 | apply s8 | apply w4 | apply z9 | apply w5)) | ((first | apply w6 | apply z6 | apply z0 | apply p5 | apply y0 | apply z7)) | ((apply p6 (id := 7) []); kernel_rfl; kernel_rfl) | (apply za6; try simp only [za9, List.cons_append, List.nil_append]) | ((first | apply i9 | apply n9 | apply m5); exact rfl; exact rfl) | ((first | apply zb4); exact rfl; exact rfl) | (apply m0; first | refine k8 (h := ?_) | refine p7 (h := ?_) | refine m6 (h := ?_) | refine d8 (h := ?_) | refine d7 (h := ?_)) | ((first | apply ze6 | apply zh4 | apply zi4 | apply ze2); exact rfl; exact rfl; exact rfl) | (apply zm8; exact rfl; exact tT_; exact rfl; exact rfl) | (apply zc3; infer_instance; infer_instance; exact rfl; exact rfl; (first | exact rfl | omega); exact rfl; (first | assumption | omega | decide)) | ((first | apply zt3); exact rfl; exact gG_))
          refine o0 (k + 1) (show k + 1 ≤ i by omega) (show i - (k + 1) < i - k by omega) ?_ ?_
          · exact fS_
          · (try dsimp only); rw [est]; exact hS_
    · rw [if_neg (fun g => hzm g.1)] at est
      as_aux_lemma =>
        repeat' (first | (apply v8; exact rfl; exact dT_) | ((first | apply w9 | apply y8 | apply x8 | apply p4); exact rfl; exact rfl) | ((first | apply p3 | apply o8 | apply l0 | apply p0); exact rfl; exact rfl; exact rfl) | ((first | apply j0 | apply ze5 | apply zt7); exact rfl; exact rfl; exact rfl; (constructor <;> omega)) | ((first | apply s9 | apply x9 | apply z8 | apply s7 | apply s8 | apply w4 | apply z9 | apply w5)) | (apply v9; exact rfl; exact fF_) | ((first | apply w6 | apply z6 | apply z0 | apply p5 | apply y0 | apply z7)) | ((apply p6 (id := 7) []); kernel_rfl; kernel_rfl) | (apply za6; try simp only [za9, List.cons_append, List.nil_append]) | ((first | apply i9 | apply n9 | apply m5); exact rfl; exact rfl) | ((first | apply zb4); exact rfl; exact rfl) | (apply m0; first | refine k8 (h := ?_) | refine p7 (h := ?_) | refine m6 (h := ?_) | refine d8 (h := ?_) | refine d7 (h := ?_)) | ((first | apply ze6 | apply zh4 | apply zi4 | apply ze2); exact rfl; exact rfl; exact rfl) | (apply zh9; exact rfl; exact fF_; exact rfl; exact rfl) | (apply zc3; infer_instance; infer_instance; exact rfl; exact rfl; (first | exact rfl | omega); exact rfl; (first | assumption | omega | decide)) | (apply zv7; exact rfl; exact gG_; exact rfl))
        refine o0 (k + 1) (show k + 1 ≤ i by omega) (show i - (k + 1) < i - k by omega) ?_ ?_
        · exact fS_
        · (try dsimp only); rw [est]; exact hS_
  obtain rfl : i = k := by omega
  clear hlt hk
  have hsb := Plt.yH4 hv hrel i
  repeat' (first | (apply v9; exact rfl; exact dF_) | ((first | apply w9 | apply y8 | apply x8 | apply p4); exact rfl; exact rfl) | ((first | apply p3 | apply o8 | apply l0 | apply p0); exact rfl; exact rfl; exact rfl) | ((first | apply s9 | apply x9 | apply z8 | apply s7 | apply s8 | apply w4 | apply z9 | apply w5)) | ((first | apply w6 | apply z6 | apply z0 | apply p5 | apply y0 | apply z7)))
  apply j9 (σ := Nat × Int × List Int × (Option Addr × Nat) × List Ent) (Fs := fun t => [(11, .int .i64 t.1), (6, ptr b6), (9, ptr b9), (8, ptr b8), (7, ptr b7), (3, ptr b3), (2, .int .i64 i), (1, .slice ar i cr)])
    (Ls := fun t => ⟨b9, Ce [.int .i64 y.id, .int .i64 t.2.1, .int .i64 0, .slice t.2.2.2.1.1 t.2.2.1.length t.2.2.2.1.2, .slice none 0 0, .slice none 0 0, .slice none 0 0, .slice none 0 0, .slice none 0 0, .slice none 0 0] 106, true⟩ :: ⟨b7, Ce [.int .i64 y.id, .int .i64 y.mach, .int .i64 y.rel, .slice x1 y.src.length k1, .slice x2 y.table.length k2, .slice x3 y.unread.length k3] 93, true⟩ :: ⟨b8, Ce [.int .i64 m.id, .int .i64 m.sweeps, .int .i64 m.rate, .slice z1 m.caps.length l1, .slice z2 m.shifts.length l2] 85, true⟩ :: ⟨b3, Ce [.slice (some ⟨bm, om, none⟩) p.ms.length c1, .slice a2 p.items.length c2, .slice (some ⟨bp, op, none⟩) p.passes.length c3] 33, true⟩ :: ⟨b6, Ce [.int .i64 0, .int .i64 0, .int .i64 0, .slice none 0 0, .slice none 0 0, .slice none 0 0, .slice none 0 0, .slice none 0 0, .slice none 0 0, .slice none 0 0] 106, true⟩ :: (t.2.2.2.2 ++ []))
    (I := fun t => t.1 ≤ y.src.length ∧ Plt.za4 (Plt.za0 p i) (Plt.stF p y i) [] y.src = Plt.za4 (Plt.za0 p i) t.2.1 t.2.2.1 (y.src.drop t.1) ∧ (t.2.2.1 = (y.src.take t.1).flatMap ((Plt.za0 p i)).row ∧ 0 ≤ t.2.1 ∧ t.2.1 ≤ 1051898399) ∧ OW 3 1 encI (.slice t.2.2.2.1.1 t.2.2.1.length t.2.2.2.1.2) t.2.2.1 t.2.2.2.2)
    (μ := fun t => y.src.length - t.1) (s0 := (0, Plt.stF p y i, [], (none, 0), []))
  · exact ⟨Nat.zero_le _, rfl, ⟨rfl, hsb.1, hsb.2⟩, OW.nil⟩
  · exact fS_
  · exact hS_
  rintro ⟨k, start, items, ⟨ai, ci⟩, NI⟩ ⟨hk, htake, ⟨hit, hs0, hs1⟩, hO⟩
  dsimp only at hk htake hit hs0 hs1 hO ⊢
  have oI := hO.own
  have hil2 : items.length ≤ 2000 := by rw [hit]; exact Nat.le_trans (zE5 _ _ _) htl
  by_cases hlt : k < y.src.length
  · obtain ⟨⟨sp, sn⟩, hx⟩ : ∃ s, y.src[k]? = some s := ⟨_, List.getElem?_eq_getElem hlt⟩
    have hsnn := hv.src_nn hy _ (List.mem_of_getElem? hx)
    dsimp only at hsnn
    obtain ⟨bs, os, cc, e, fz, rfl, hkk, hpt⟩ := hop4 (by omega)
    have g1 : ∀ j u, ([.int .i64 sp, .int .i64 sn] : List Value)[j]? = some u → cc[os + k * 2 + j]? = some u := hpt.get hx
    have hit1 : items ++ ((Plt.za0 p i)).row (sp, sn) = (y.src.take (k + 1)).flatMap ((Plt.za0 p i)).row := by rw [take_snoc hx, List.flatMap_append, hit]; simp
    have hitl : (items ++ ((Plt.za0 p i)).row (sp, sn)).length ≤ 2000 := by rw [hit1]; exact Nat.le_trans (zE5 _ _ _) htl
    rw [drop_at hx] at htake
    by_cases h0 : sp = 0
    · subst h0
      rw [Plt.ym0 rfl] at htake
      have hrow := Plt.ys1 hv i hsnn
      rw [hrow] at htake hit1 hitl
      as_aux_lemma =>
        repeat' (first | (apply v8; exact rfl; exact dT_) | ((first | apply w9 | apply y8 | apply x8 | apply p4); exact rfl; exact rfl) | (apply w7; first | refine u9 (h := ?_) | refine y9 (h := ?_) | refine w8 (h := ?_) | refine q6 (h := ?_) | refine q0 (h := ?_)) | ((first | apply p3 | apply o8 | apply l0 | apply p0); exact rfl; exact rfl; exact rfl) | (apply o7; exact rfl; intro _) | (apply q7; first | refine q8 (h := ?_) | refine q9 (h := ?_)) | (apply o9; infer_instance; exact rfl; exact rfl) | (apply m8; infer_instance; infer_instance; exact rfl; exact rfl; (first | exact rfl | omega); exact rfl; (first | assumption | omega | decide)) | ((first | apply s9 | apply x9 | apply z8 | apply s7 | apply s8 | apply w4 | apply z9 | apply w5)) | ((first | apply w6 | apply z6 | apply z0 | apply p5 | apply y0 | apply z7)))
        rename_i b12
        apply j9 (σ := Nat × (Option Addr × Nat) × List Ent) (Fs := fun t => [(13, .int .i64 t.1), (12, ptr b12), (11, .int .i64 k), (6, ptr b6), (9, ptr b9), (8, ptr b8), (7, ptr b7), (3, ptr b3), (2, .int .i64 i), (1, .slice ar i cr)])
          (Ls := fun t => ⟨b9, Ce [.int .i64 y.id, .int .i64 start, .int .i64 0, .slice t.2.1.1 (items ++ Plt.ze1 (p.items.take t.1) (0, sn)).length t.2.1.2, .slice none 0 0, .slice none 0 0, .slice none 0 0, .slice none 0 0, .slice none 0 0, .slice none 0 0] 106, true⟩ :: ⟨b12, Ce [.int .i64 0, .int .i64 sn] 96, true⟩ :: ⟨b7, Ce [.int .i64 y.id, .int .i64 y.mach, .int .i64 y.rel, .slice (some ⟨bs, os, none⟩) y.src.length k1, .slice x2 y.table.length k2, .slice x3 y.unread.length k3] 93, true⟩ :: ⟨b8, Ce [.int .i64 m.id, .int .i64 m.sweeps, .int .i64 m.rate, .slice z1 m.caps.length l1, .slice z2 m.shifts.length l2] 85, true⟩ :: ⟨b3, Ce [.slice (some ⟨bm, om, none⟩) p.ms.length c1, .slice a2 p.items.length c2, .slice (some ⟨bp, op, none⟩) p.passes.length c3] 33, true⟩ :: ⟨b6, Ce [.int .i64 0, .int .i64 0, .int .i64 0, .slice none 0 0, .slice none 0 0, .slice none 0 0, .slice none 0 0, .slice none 0 0, .slice none 0 0, .slice none 0 0] 106, true⟩ :: (t.2.2 ++ []))
          (I := fun t => t.1 ≤ p.items.length ∧ OW 3 1 encI (.slice t.2.1.1 (items ++ Plt.ze1 (p.items.take t.1) (0, sn)).length t.2.1.2) (items ++ Plt.ze1 (p.items.take t.1) (0, sn)) t.2.2) (μ := fun t => p.items.length - t.1) (s0 := (0, (ai, ci), NI))
        · exact ⟨Nat.zero_le _, by simp [Plt.ze1]; exact hO⟩
        · exact fS_
        · (try dsimp only); rw [show items ++ Plt.ze1 (p.items.take 0) (0, sn) = items by simp [Plt.ze1]]; exact hS_
        rintro ⟨n, ⟨an, cn⟩, NN⟩ ⟨hn, hON⟩
        dsimp only at hn hON ⊢
        have oN := hON.own
        have hbl : (items ++ Plt.ze1 (p.items.take n) (0, sn)).length ≤ 2000 := by
          rw [List.length_append] at hitl ⊢
          have : (Plt.ze1 (p.items.take n) (0, sn)).length ≤ (Plt.ze1 p.items (0, sn)).length := by
            unfold Plt.ze1
            rw [if_pos rfl, if_pos rfl, List.length_map, List.length_map]
            exact (List.Sublist.filter _ (List.take_sublist n p.items)).length_le
          omega
        by_cases hnl : n < p.items.length
        · obtain ⟨⟨ti, ts, tb⟩, ht⟩ : ∃ s, p.items[n]? = some s := ⟨_, List.getElem?_eq_getElem hnl⟩
          obtain ⟨bi, oi, cci, ei, fzi, rfl, hki, hpi⟩ := hop2 (by omega)
          have gt : ∀ jj u, ([.int .i64 ti, .int .i64 ts, .int .i64 tb] : List Value)[jj]? = some u → cci[oi + n * 3 + jj]? = some u := hpi.get ht
          have ebs := Plt.ya2 (s := (0, sn)) ht
          dsimp only at ebs
          by_cases hb : tb = sn
          · rw [if_pos ⟨rfl, hb⟩] at ebs
            have e1 : items ++ Plt.ze1 (p.items.take (n + 1)) (0, sn) = (items ++ Plt.ze1 (p.items.take n) (0, sn)) ++ [ti] := by rw [ebs, List.append_assoc]
            generalize items ++ Plt.ze1 (p.items.take n) (0, sn) = T at hON hbl e1 ⊢
            as_aux_lemma =>
              repeat' (first | (apply v8; exact rfl; exact dT_) | (apply zc4 (enc := encI) (ys := [(ti)]); infer_instance; infer_instance; infer_instance; exact rfl; exact j8; exact zg4; exact rfl; exact rfl; exact rfl; assumption; exact rL_; (exact fun w hw => SV.lit [(ti)] j8 hw (by exact aT_) rfl rfl (by decide)); (first | decide | (constructor <;> (try simp only [List.length_cons, List.length_nil]) <;> omega) | (constructor <;> simp <;> omega)); intro a_ cp_ N_ hO_; have oN_ := hO_.own; (try simp only [List.nil_append, List.append_assoc] at hO_); (try simp only [List.append_eq, List.append_assoc, List.cons_append, List.nil_append])) | ((first | apply w9 | apply y8 | apply x8 | apply p4); exact rfl; exact rfl) | (apply w7; first | refine u9 (h := ?_) | refine y9 (h := ?_) | refine w8 (h := ?_) | refine q6 (h := ?_) | refine q0 (h := ?_)) | ((first | apply p3 | apply o8 | apply l0 | apply p0); exact rfl; exact rfl; exact rfl) | ((first | apply j0 | apply ze5 | apply zt7); exact rfl; exact rfl; exact rfl; (constructor <;> omega)) | (apply q7; first | refine q8 (h := ?_) | refine q9 (h := ?_)) | (apply o9; infer_instance; exact rfl; exact rfl) | ((first | apply s9 | apply x9 | apply z8 | apply s7 | apply s8 | apply w4 | apply z9 | apply w5)) | ((first | apply w6 | apply z6 | apply z0 | apply p5 | apply y0 | apply z7)) | ((apply p6 (id := 17) []); kernel_rfl; kernel_rfl) | ((apply zg0 (id := 18) [] 9); kernel_rfl; kernel_rfl; simp only [List.take_succ_cons, List.take_zero, List.drop_succ_cons, List.drop_zero]) | (apply za6; try simp only [za9, List.cons_append, List.nil_append]) | ((first | apply i9 | apply n9 | apply m5); exact rfl; exact rfl) | ((first | apply zb4); exact rfl; exact rfl) | (apply m0; first | refine k8 (h := ?_) | refine p7 (h := ?_) | refine m6 (h := ?_) | refine d8 (h := ?_) | refine d7 (h := ?_)) | ((first | apply ze6 | apply zh4 | apply zi4 | apply ze2); exact rfl; exact rfl; exact rfl) | (apply zc3; infer_instance; infer_instance; exact rfl; exact rfl; (first | exact rfl | omega); exact rfl; (first | assumption | omega | decide)) | (apply zd9; refine zf0 (h := fun _ => ?_)))
              rw [← e1] at hO_ ⊢
              refine o0 (n + 1, (a_, cp_), N_) ⟨by dsimp only; omega, hO_⟩ (by dsimp only; omega) ?_ ?_
              · exact fS_
              · exact hS_
          · rw [if_neg (fun g => hb g.2), List.append_nil] at ebs
            as_aux_lemma =>
              repeat' (first | (apply v8; exact rfl; exact dT_) | (apply v9; exact rfl; exact dF_) | ((first | apply w9 | apply y8 | apply x8 | apply p4); exact rfl; exact rfl) | (apply w7; first | refine u9 (h := ?_) | refine y9 (h := ?_) | refine w8 (h := ?_) | refine q6 (h := ?_) | refine q0 (h := ?_)) | ((first | apply p3 | apply o8 | apply l0 | apply p0); exact rfl; exact rfl; exact rfl) | ((first | apply j0 | apply ze5 | apply zt7); exact rfl; exact rfl; exact rfl; (constructor <;> omega)) | (apply o9; infer_instance; exact rfl; exact rfl) | ((first | apply s9 | apply x9 | apply z8 | apply s7 | apply s8 | apply w4 | apply z9 | apply w5)) | ((first | apply w6 | apply z6 | apply z0 | apply p5 | apply y0 | apply z7)) | ((apply p6 (id := 17) []); kernel_rfl; kernel_rfl) | (apply za6; try simp only [za9, List.cons_append, List.nil_append]) | ((first | apply i9 | apply n9 | apply m5); exact rfl; exact rfl) | ((first | apply zb4); exact rfl; exact rfl) | (apply m0; first | refine k8 (h := ?_) | refine p7 (h := ?_) | refine m6 (h := ?_) | refine d8 (h := ?_) | refine d7 (h := ?_)) | ((first | apply ze6 | apply zh4 | apply zi4 | apply ze2); exact rfl; exact rfl; exact rfl) | (apply zc3; infer_instance; infer_instance; exact rfl; exact rfl; (first | exact rfl | omega); exact rfl; (first | assumption | omega | decide)))
              refine o0 (n + 1, (an, cn), NN) ⟨by dsimp only; omega, by dsimp only; rw [ebs]; exact hON⟩ (by dsimp only; omega) ?_ ?_
              · exact fS_
              · (try dsimp only); rw [ebs]; exact hS_
        obtain rfl : n = p.items.length := by omega
        rw [List.take_length] at hON ⊢
        repeat' (first | (apply v9; exact rfl; exact dF_) | ((first | apply w9 | apply y8 | apply x8 | apply p4); exact rfl; exact rfl) | (apply w7; first | refine u9 (h := ?_) | refine y9 (h := ?_) | refine w8 (h := ?_) | refine q6 (h := ?_) | refine q0 (h := ?_)) | ((first | apply p3 | apply o8 | apply l0 | apply p0); exact rfl; exact rfl; exact rfl) | ((first | apply j0 | apply ze5 | apply zt7); exact rfl; exact rfl; exact rfl; (constructor <;> omega)) | (apply o9; infer_instance; exact rfl; exact rfl) | ((first | apply s9 | apply x9 | apply z8 | apply s7 | apply s8 | apply w4 | apply z9 | apply w5)) | ((first | apply w6 | apply z6 | apply z0 | apply p5 | apply y0 | apply z7)))
        refine o0 (k + 1, start, items ++ Plt.ze1 p.items (0, sn), (an, cn), NN) ⟨by dsimp only; omega, htake, ⟨hit1, hs0, hs1⟩, hON⟩ (by dsimp only; omega) ?_ ?_
        · exact fS_
        · exact hS_
    have hok := ((Plt.zE1 hpo.2.1).2 _ (List.mem_of_getElem? hx)).2
    obtain ⟨zf, hzf⟩ : ∃ z, Plt.zj4 sp (p.passes.map Plt.za3.id) = z := ⟨_, rfl⟩
    unfold Plt.zi9 at hok
    rw [if_neg h0] at hok
    dsimp only at hok
    have hzr : 0 ≤ zf ∧ zf < (i : Int) := by
      refine Classical.byContradiction fun g => ?_
      rw [Plt.yo4 (msl := Plt.zf5 p.ms) (l := p.passes) (x := sp) (i := i) (by rw [hzf]; omega)] at hok
      exact hok
    obtain ⟨j, rfl⟩ := Int.eq_ofNat_of_zero_le hzr.1
    have hji : j < i := by omega
    obtain ⟨z, hz⟩ : ∃ z, p.passes[j]? = some z := ⟨_, List.getElem?_eq_getElem (by omega)⟩
    obtain ⟨hzid, hzas⟩ := Plt.yo2 (msl := Plt.zf5 p.ms) hzf hz hji
    rw [hzas] at hok
    dsimp only at hok
    obtain ⟨rk, hrk⟩ : ∃ r, (Plt.za2 p)[j]? = some r := ⟨_, List.getElem?_eq_getElem (by omega)⟩
    have hrk2 : ((Plt.za2 p).take i)[j]? = some rk := by rw [List.getElem?_take_of_lt hji]; exact hrk
    obtain ⟨bq, oq, ccq, eq_, fzq, rfl, hkq, hpq⟩ := hop7 (by omega)
    obtain ⟨_, _, y1, j1, y2, j2, y3, m3, j3, y4, m4, j4, y5, j5, y6, j6, y7, m7, j7, -, hds, hm3, -⟩ := hR.at hrk2
    have gr : ∀ jj u, ([.int .i64 rk.pass, .int .i64 rk.start, .int .i64 rk.fin, .slice y1 rk.items.length j1, .slice y2 rk.slices.length j2, .slice y3 m3 j3, .slice y4 m4 j4, .slice y5 rk.res.over.length j5, .slice y6 rk.res.rej.length j6, .slice y7 m7 j7] : List Value)[jj]? = some u → ccq[oq + j * 10 + jj]? = some u := hpq.get hds
    have hfk := Plt.zN8 hrk
    by_cases hfin : rk.fin < 0
    · rw [Plt.yt1 h0 (Plt.yA8 hv hz hzid (by rw [hfk]; exact hfin))] at htake
      have hmis : r = Plt.missed y := by
        rcases hcases with hc | ⟨ready, hc⟩
        · exact hc.eq
        · have := hc.take
          rw [hmid, ← hfree, htake] at this
          cases this
      subst hmis
      as_aux_lemma =>
        repeat' (first | (apply v8; exact rfl; exact dT_) | (apply v9; exact rfl; exact dF_) | ((first | ((apply t8 (f := 49)); exact rfl) | ((apply t9 (f := 49)); exact rfl; kernel_rfl; exact rfl; exact sJ_)); exact eV_; exact (fun w hw => zj5 hzf w (hV.keep hw (by exact aO_)))) | ((first | apply w9 | apply y8 | apply x8 | apply p4); exact rfl; exact rfl) | (apply w7; first | refine u9 (h := ?_) | refine y9 (h := ?_) | refine w8 (h := ?_) | refine q6 (h := ?_) | refine q0 (h := ?_)) | ((first | apply p3 | apply o8 | apply l0 | apply p0); exact rfl; exact rfl; exact rfl) | (apply o7; exact rfl; intro _) | (apply q7; first | refine q8 (h := ?_) | refine q9 (h := ?_)) | (apply g7; first | refine a8 (h := ?_)) | (apply o9; infer_instance; exact rfl; exact rfl) | (apply m8; infer_instance; infer_instance; exact rfl; exact rfl; (first | exact rfl | omega); exact rfl; (first | assumption | omega | decide)) | ((first | apply s9 | apply x9 | apply z8 | apply s7 | apply s8 | apply w4 | apply z9 | apply w5)) | ((first | apply w6 | apply z6 | apply z0 | apply p5 | apply y0 | apply z7)))
        apply p8; apply zb0 Try.results38; exact rV_; intro w' hw
        exact ⟨_, [], rfl, ⟨yn9 y.id, rfl, fun _ w _ _ _ _ => RunV.missed w y, by simp⟩, hw.sub (by exact hS_), by simp⟩
    have hfb := Plt.fin_bd hv j
    rw [hfk] at hfb
    rw [Plt.yt2 h0 (Plt.yA7 hv hji hz hzid (by rw [hfk]; omega)), hfk] at htake
    have hrow := Plt.yy6 (s := (sp, sn)) hv hji hz hrk hzid h0 hsnn
    obtain ⟨g, rfl⟩ := Int.eq_ofNat_of_zero_le hsnn
    have hslen : g < rk.res.stackers.length := by
      obtain ⟨_, mj, _, _, _, _, _, hmaj, hcj⟩ := hv.run hz hrk
      rw [hmaj] at hok
      rcases hcj with hc | ⟨ready, hc⟩
      · rw [hc.eq] at hfin
        exact absurd (show (Plt.missed z).fin < 0 by show (-1 : Int) < 0; omega) hfin
      · rw [hc.stk_len]
        have := hok.2
        simp only [Option.getD_some] at this
        omega
    obtain ⟨xs, hxs0⟩ : ∃ xs, rk.res.stackers[g]? = some xs := ⟨_, List.getElem?_eq_getElem hslen⟩
    rw [Int.toNat_natCast, List.getD_eq_getElem?_getD, hxs0, Option.getD_some] at hrow
    rw [hrow] at htake hit1 hitl
    rw [List.length_append] at hitl
    obtain ⟨ss, hss, hsl⟩ := (hR.2.2 j _ rk hds hrk2).stk
    dsimp only [sdV] at hss
    obtain ⟨⟨sa, sl_, sc⟩, hsg⟩ : ∃ s, ss[g]? = some s := ⟨_, List.getElem?_eq_getElem (by have := hsl.1; omega)⟩
    have hxs := hsl.2 g _ xs hsg hxs0
    obtain ⟨_, _, e8⟩ := SV.sd hxs
    cases e8
    dsimp only [sdV] at hxs
    obtain ⟨_, _, e9, hc9, hop9⟩ := hss.open
    simp only [Value.slice.injEq] at e9
    obtain ⟨rfl, rfl, rfl⟩ := e9
    have hgl := (List.getElem?_eq_some_iff.1 hsg).1
    obtain ⟨bt, ot, cct, et, fzt, rfl, hkt, hpt2⟩ := hop9 (by omega)
    have gt2 : cct[ot + g * 1]? = some (.slice sa xs.length sc) := hpt2.one hsg rfl
    by_cases hgt : start < rk.fin
    · rw [show max start rk.fin = rk.fin by omega] at htake
      as_aux_lemma =>
        repeat' (first | (apply v8; exact rfl; exact dT_) | (apply v9; exact rfl; exact dF_) | ((first | ((apply t8 (f := 49)); exact rfl) | ((apply t9 (f := 49)); exact rfl; kernel_rfl; exact rfl; exact sJ_)); exact eV_; exact (fun w hw => zj5 hzf w (hV.keep hw (by exact aO_)))) | (apply zc4 (enc := encI); infer_instance; infer_instance; infer_instance; exact rfl; exact j8; exact zg4; exact rfl; exact rfl; exact rfl; assumption; exact rL_; (exact fun w hw => (hxs.keep hw (by exact aO_))); (first | decide | (constructor <;> (try simp only [List.length_cons, List.length_nil]) <;> omega) | (constructor <;> simp <;> omega)); intro a_ cp_ N_ hO_; have oN_ := hO_.own; (try simp only [List.nil_append, List.append_assoc] at hO_); (try simp only [List.append_eq, List.append_assoc, List.cons_append, List.nil_append])) | ((first | apply w9 | apply y8 | apply x8 | apply p4); exact rfl; exact rfl) | (apply w7; first | refine u9 (h := ?_) | refine y9 (h := ?_) | refine w8 (h := ?_) | refine q6 (h := ?_) | refine q0 (h := ?_)) | ((first | apply p3 | apply o8 | apply l0 | apply p0); exact rfl; exact rfl; exact rfl) | ((first | apply j0 | apply ze5 | apply zt7); exact rfl; exact rfl; exact rfl; (constructor <;> omega)) | (apply o7; exact rfl; intro _) | (apply q7; first | refine q8 (h := ?_) | refine q9 (h := ?_)) | (apply o9; infer_instance; exact rfl; exact rfl) | (apply m8; infer_instance; infer_instance; exact rfl; exact rfl; (first | exact rfl | omega); exact rfl; (first | assumption | omega | decide)) | ((first | apply s9 | apply x9 | apply z8 | apply s7 | apply s8 | apply w4 | apply z9 | apply w5)) | ((first | apply w6 | apply z6 | apply z0 | apply p5 | apply y0 | apply z7)) | ((apply zg0 (id := 24) [] 9); kernel_rfl; kernel_rfl; simp only [List.take_succ_cons, List.take_zero, List.drop_succ_cons, List.drop_zero]) | (apply za6; try simp only [za9, List.cons_append, List.nil_append]) | ((first | apply i9 | apply n9 | apply m5); exact rfl; exact rfl) | ((first | apply zb4); exact rfl; exact rfl) | (apply m0; first | refine k8 (h := ?_) | refine p7 (h := ?_) | refine m6 (h := ?_) | refine d8 (h := ?_) | refine d7 (h := ?_)) | (apply zc3; infer_instance; infer_instance; exact rfl; exact rfl; (first | exact rfl | omega); exact rfl; (first | assumption | omega | decide)))
        refine o0 (k + 1, rk.fin, items ++ xs, (a_, cp_), N_) ⟨by dsimp only; omega, htake, ⟨hit1, by dsimp only; omega, by dsimp only; omega⟩, hO_⟩ (by dsimp only; omega) ?_ ?_
        · exact fS_
        · exact hS_
    · rw [show max start rk.fin = start by omega] at htake
      as_aux_lemma =>
        repeat' (first | (apply v8; exact rfl; exact dT_) | (apply v9; exact rfl; exact dF_) | ((first | ((apply t8 (f := 49)); exact rfl) | ((apply t9 (f := 49)); exact rfl; kernel_rfl; exact rfl; exact sJ_)); exact eV_; exact (fun w hw => zj5 hzf w (hV.keep hw (by exact aO_)))) | (apply zc4 (enc := encI); infer_instance; infer_instance; infer_instance; exact rfl; exact j8; exact zg4; exact rfl; exact rfl; exact rfl; assumption; exact rL_; (exact fun w hw => (hxs.keep hw (by exact aO_))); (first | decide | (constructor <;> (try simp only [List.length_cons, List.length_nil]) <;> omega) | (constructor <;> simp <;> omega)); intro a_ cp_ N_ hO_; have oN_ := hO_.own; (try simp only [List.nil_append, List.append_assoc] at hO_); (try simp only [List.append_eq, List.append_assoc, List.cons_append, List.nil_append])) | ((first | apply w9 | apply y8 | apply x8 | apply p4); exact rfl; exact rfl) | (apply w7; first | refine u9 (h := ?_) | refine y9 (h := ?_) | refine w8 (h := ?_) | refine q6 (h := ?_) | refine q0 (h := ?_)) | ((first | apply p3 | apply o8 | apply l0 | apply p0); exact rfl; exact rfl; exact rfl) | ((first | apply j0 | apply ze5 | apply zt7); exact rfl; exact rfl; exact rfl; (constructor <;> omega)) | (apply o7; exact rfl; intro _) | (apply q7; first | refine q8 (h := ?_) | refine q9 (h := ?_)) | (apply o9; infer_instance; exact rfl; exact rfl) | (apply m8; infer_instance; infer_instance; exact rfl; exact rfl; (first | exact rfl | omega); exact rfl; (first | assumption | omega | decide)) | ((first | apply s9 | apply x9 | apply z8 | apply s7 | apply s8 | apply w4 | apply z9 | apply w5)) | ((first | apply w6 | apply z6 | apply z0 | apply p5 | apply y0 | apply z7)) | ((apply zg0 (id := 24) [] 9); kernel_rfl; kernel_rfl; simp only [List.take_succ_cons, List.take_zero, List.drop_succ_cons, List.drop_zero]) | (apply za6; try simp only [za9, List.cons_append, List.nil_append]) | ((first | apply i9 | apply n9 | apply m5); exact rfl; exact rfl) | ((first | apply zb4); exact rfl; exact rfl) | (apply m0; first | refine k8 (h := ?_) | refine p7 (h := ?_) | refine m6 (h := ?_) | refine d8 (h := ?_) | refine d7 (h := ?_)) | (apply zc3; infer_instance; infer_instance; exact rfl; exact rfl; (first | exact rfl | omega); exact rfl; (first | assumption | omega | decide)))
        refine o0 (k + 1, start, items ++ xs, (a_, cp_), N_) ⟨by dsimp only; omega, htake, ⟨hit1, by dsimp only; omega, by dsimp only; omega⟩, hO_⟩ (by dsimp only; omega) ?_ ?_
        · exact fS_
        · exact hS_
  obtain rfl : k = y.src.length := by omega
  rw [List.drop_length, Plt.za4] at htake
  obtain ⟨nq, hnq⟩ : ∃ z, (items.length : Int) / m.rate = z := ⟨_, rfl⟩
  have hnq0 : 0 ≤ nq := by rw [← hnq]; exact Int.ediv_nonneg (by omega) (by omega)
  have hnq1 : nq ≤ items.length := by rw [← hnq]; exact Int.ediv_le_self _ (by omega)
  obtain ⟨np, hnp⟩ : ∃ z, nq * m.rate = z := ⟨_, rfl⟩
  have hnp0 : 0 ≤ np := by rw [← hnp]; exact Int.mul_nonneg hnq0 (by omega)
  have hnp1 : np ≤ items.length := by rw [← hnp, ← hnq]; exact Int.ediv_mul_le _ (by omega)
  have hnd := Plt.yw6 (n := items.length) hrt.1
  have hne1 : items = [] ∨ 1 ≤ Plt.zb3 items.length m.rate := by
    rcases items with _ | ⟨a, l⟩
    · exact .inl rfl
    · refine .inr ?_
      unfold Plt.zb3
      exact Int.le_ediv_of_mul_le (by omega) (by rw [List.length_cons]; omega)
  have hne0 : items = [] → Plt.zb3 items.length m.rate = 0 := fun g => by
    subst g
    unfold Plt.zb3
    exact Int.ediv_eq_zero_of_lt (by simp; omega) (by simp; omega)
  rw [hnq, hnp] at hnd
  obtain ⟨nd, hnd0⟩ : ∃ z, Plt.zb3 items.length m.rate = z := ⟨_, rfl⟩
  rw [hnd0] at hnd hne1 hne0
  have hndb : 0 ≤ nd ∧ nd ≤ 100000 := by split at hnd <;> omega
  repeat' (first | (apply v9; exact rfl; exact dF_) | ((apply yE0 (v := nq)); exact rfl; exact rfl; exact hnq; omega; exact rfl) | ((apply yk2 (v := np)); exact rfl; exact rfl; exact hnp; omega; exact rfl) | ((first | apply w9 | apply y8 | apply x8 | apply p4); exact rfl; exact rfl) | (apply w7; first | refine u9 (h := ?_) | refine y9 (h := ?_) | refine w8 (h := ?_) | refine q6 (h := ?_) | refine q0 (h := ?_)) | ((first | apply p3 | apply o8 | apply l0 | apply p0); exact rfl; exact rfl; exact rfl) | (apply o9; infer_instance; exact rfl; exact rfl) | ((first | apply s9 | apply x9 | apply z8 | apply s7 | apply s8 | apply w4 | apply z9 | apply w5)) | ((first | apply w6 | apply z6 | apply z0 | apply p5 | apply y0 | apply z7)))
  apply zP0 (σ := Unit) (Ds := fun _ => []) (Fs := fun _ => [(15, .int .i64 nd), (6, ptr b6), (9, ptr b9), (8, ptr b8), (7, ptr b7), (3, ptr b3), (2, .int .i64 i), (1, .slice ar i cr)]) (Ls := fun _ => ⟨b9, Ce [.int .i64 y.id, .int .i64 start, .int .i64 0, .slice ai items.length ci, .slice none 0 0, .slice none 0 0, .slice none 0 0, .slice none 0 0, .slice none 0 0, .slice none 0 0] 106, true⟩ :: ⟨b7, Ce [.int .i64 y.id, .int .i64 y.mach, .int .i64 y.rel, .slice x1 y.src.length k1, .slice x2 y.table.length k2, .slice x3 y.unread.length k3] 93, true⟩ :: ⟨b8, Ce [.int .i64 m.id, .int .i64 m.sweeps, .int .i64 m.rate, .slice z1 m.caps.length l1, .slice z2 m.shifts.length l2] 85, true⟩ :: ⟨b3, Ce [.slice (some ⟨bm, om, none⟩) p.ms.length c1, .slice a2 p.items.length c2, .slice (some ⟨bp, op, none⟩) p.passes.length c3] 33, true⟩ :: ⟨b6, Ce [.int .i64 0, .int .i64 0, .int .i64 0, .slice none 0 0, .slice none 0 0, .slice none 0 0, .slice none 0 0, .slice none 0 0, .slice none 0 0, .slice none 0 0] 106, true⟩ :: (NI ++ [])) (I := fun _ => True)
  · by_cases hc : np < items.length
    · rw [if_pos hc] at hnd
      subst hnd
      as_aux_lemma =>
        repeat' (first | (apply v8; exact rfl; exact dT_) | ((first | apply w9 | apply y8 | apply x8 | apply p4); exact rfl; exact rfl) | ((first | apply j0 | apply ze5 | apply zt7); exact rfl; exact rfl; exact rfl; (constructor <;> omega)) | ((first | apply s9 | apply x9 | apply z8 | apply s7 | apply s8 | apply w4 | apply z9 | apply w5)) | ((first | apply w6 | apply z6 | apply z0 | apply p5 | apply y0 | apply z7)))
        refine zq2 () trivial rfl ?_ ?_
        · exact fS_
        · exact hS_
    · rw [if_neg hc] at hnd
      subst hnd
      as_aux_lemma =>
        repeat' (first | (apply v9; exact rfl; exact dF_) | ((first | apply s9 | apply x9 | apply z8 | apply s7 | apply s8 | apply w4 | apply z9 | apply w5)) | ((first | apply w6 | apply z6 | apply z0 | apply p5 | apply y0 | apply z7)))
        refine zq2 () trivial rfl ?_ ?_
        · exact fS_
        · exact hS_
  rintro ⟨⟩ -
  (try dsimp only)
  clear hnd hnq hnp hnq0 hnq1 hnp0 hnp1
  have hsh := Plt.zz5 hright
  have hshb := Plt.zY3 (Int.le_refl 0) hsh.2
  obtain ⟨L, hL⟩ : ∃ L, Plt.g9 start nd m.shifts = L := ⟨_, rfl⟩
  have hspan := Plt.zy2 (rel := start) (l := m.shifts) hndb.1
  rw [hL] at hspan
  rcases hcases with hc | ⟨ready, hc⟩
  · have hwhy := hc.why start items (by rw [hmid, ← hfree, htake])
    have hlt2 : Plt.zn8 start m.shifts < nd := by rw [← hnd0]; unfold Plt.zb3; exact (Plt.zH8 hrt.1).2 hwhy
    have hb0 : decide (nd ≤ Plt.zb8 L) = false := decide_eq_false (by omega)
    have hmis := hc.eq
    subst hmis
    as_aux_lemma =>
      repeat' (first | ((first | ((apply f5 (f := 53)); exact rfl) | ((apply d6 (f := 53)); exact rfl; exact rfl; exact sJ_)); exact eV_; exact (fun w hw => zR9 hL hb0 w (hshs.keep hw (by exact aO_)) hsh.1 hshb ⟨hs0, hs1⟩ hndb); rintro v NSl ⟨asl, csl, rfl, hSl, oSl⟩ <;> (try simp only [List.cons_append, List.nil_append, List.append_assoc])) | ((first | apply w9 | apply y8 | apply x8 | apply p4); exact rfl; exact rfl) | (apply w7; first | refine u9 (h := ?_) | refine y9 (h := ?_) | refine w8 (h := ?_) | refine q6 (h := ?_) | refine q0 (h := ?_)) | ((first | apply p3 | apply o8 | apply l0 | apply p0); exact rfl; exact rfl; exact rfl) | (apply zd5; exact rfl; exact rfl) | (apply q7; first | refine q8 (h := ?_) | refine q9 (h := ?_)) | (apply g7; first | refine a8 (h := ?_)) | ((first | apply s9 | apply x9 | apply z8 | apply s7 | apply s8 | apply w4 | apply z9 | apply w5)) | (apply v8; exact rfl; exact tT_) | ((first | apply w6 | apply z6 | apply z0 | apply p5 | apply y0 | apply z7)))
      apply p8; apply zb0 Try.results38; exact rV_; intro w' hw
      exact ⟨_, [], rfl, ⟨yn9 y.id, rfl, fun _ w _ _ _ _ => RunV.missed w y, by simp⟩, hw.sub (by exact hS_), by simp⟩
  have hti := hc.take
  rw [hmid, ← hfree, htake] at hti
  simp only [Option.some.injEq, Prod.mk.injEq] at hti
  obtain ⟨rfl, hitr⟩ := hti
  have hen := hc.enough
  rw [← hitr, hnd0] at hen
  have hb0 : decide (nd ≤ Plt.zb8 L) = true := decide_eq_true (by omega)
  have hrs := hc.slices
  have hrst := hc.start
  have hrfi := hc.fin
  rw [← hitr] at hrs hrst hrfi
  rw [hnd0, hL] at hrs
  have hmem := hc.mem hv hy hma
  rw [← hitr] at hmem
  have hres := hc.res
  rw [← hitr] at hres
  repeat' (first | ((first | ((apply f5 (f := 53)); exact rfl) | ((apply d6 (f := 53)); exact rfl; exact rfl; exact sJ_)); exact eV_; exact (fun w hw => zR9 hL hb0 w (hshs.keep hw (by exact aO_)) hsh.1 hshb ⟨hs0, hs1⟩ hndb); rintro v NSl ⟨asl, csl, rfl, hSl, oSl⟩ <;> (try simp only [List.cons_append, List.nil_append, List.append_assoc])) | ((first | apply w9 | apply y8 | apply x8 | apply p4); exact rfl; exact rfl) | (apply w7; first | refine u9 (h := ?_) | refine y9 (h := ?_) | refine w8 (h := ?_) | refine q6 (h := ?_) | refine q0 (h := ?_)) | ((first | apply p3 | apply o8 | apply l0 | apply p0); exact rfl; exact rfl; exact rfl) | (apply zd5; exact rfl; exact rfl) | (apply q7; first | refine q8 (h := ?_) | refine q9 (h := ?_)) | ((first | apply s9 | apply x9 | apply z8 | apply s7 | apply s8 | apply w4 | apply z9 | apply w5)) | (apply v9; exact rfl; exact fF_) | ((first | apply w6 | apply z6 | apply z0 | apply p5 | apply y0 | apply z7)))
  have hspn : nd ≤ Plt.zb8 L := by omega
  apply zP0 (σ := Unit) (Ds := fun _ => []) (Fs := fun _ => [(6, ptr b6), (9, ptr b9), (8, ptr b8), (7, ptr b7), (3, ptr b3), (2, .int .i64 i), (1, .slice ar i cr)]) (Ls := fun _ => ⟨b9, Ce [.int .i64 y.id, .int .i64 r.start, .int .i64 r.fin, .slice ai items.length ci, .slice asl (Plt.zd6 y.id L).length csl, .slice none 0 0, .slice none 0 0, .slice none 0 0, .slice none 0 0, .slice none 0 0] 106, true⟩ :: ⟨b7, Ce [.int .i64 y.id, .int .i64 y.mach, .int .i64 y.rel, .slice x1 y.src.length k1, .slice x2 y.table.length k2, .slice x3 y.unread.length k3] 93, true⟩ :: ⟨b8, Ce [.int .i64 m.id, .int .i64 m.sweeps, .int .i64 m.rate, .slice z1 m.caps.length l1, .slice z2 m.shifts.length l2] 85, true⟩ :: ⟨b3, Ce [.slice (some ⟨bm, om, none⟩) p.ms.length c1, .slice a2 p.items.length c2, .slice (some ⟨bp, op, none⟩) p.passes.length c3] 33, true⟩ :: ⟨b6, Ce [.int .i64 0, .int .i64 0, .int .i64 0, .slice none 0 0, .slice none 0 0, .slice none 0 0, .slice none 0 0, .slice none 0 0, .slice none 0 0, .slice none 0 0] 106, true⟩ :: (NSl ++ (NI ++ []))) (I := fun _ => True)
  · by_cases hne : items = []
    · have hn0 := hne0 hne
      rw [if_pos hne] at hrst hrfi
      as_aux_lemma =>
        repeat' (first | (apply v9; exact rfl; exact dF_) | ((first | apply s9 | apply x9 | apply z8 | apply s7 | apply s8 | apply w4 | apply z9 | apply w5)) | ((first | apply w6 | apply z6 | apply z0 | apply p5 | apply y0 | apply z7)))
        refine zq2 () trivial rfl ?_ ?_
        · exact fS_
        · (try dsimp only); rw [hrst, hrfi]; exact hS_
    · have hn1 : 1 ≤ nd := hne1.resolve_left hne
      rw [if_neg hne] at hrst hrfi hrs
      rw [hrs] at hrst hrfi
      have hLne : L ≠ [] := fun g => by rw [g, Plt.zb8] at hspn; omega
      obtain ⟨n, hLn⟩ : ∃ n, L.length = n + 1 := ⟨L.length - 1, by have := List.length_pos_iff.2 hLne; omega⟩
      obtain ⟨s0, hs00⟩ : ∃ s, L[0]? = some s := ⟨_, List.getElem?_eq_getElem (by omega)⟩
      obtain ⟨sL, hsL⟩ : ∃ s, L[n]? = some s := ⟨_, List.getElem?_eq_getElem (by omega)⟩
      have e10 : L.headD (0, 0) = s0 := by
        cases L with
        | nil => simp at hs00
        | cons a l => simp at hs00; subst hs00; rfl
      have e11 : L.getLastD (0, 0) = sL := by
        rw [List.getLastD_eq_getLast?, List.getLast?_eq_getElem?, hLn, show n + 1 - 1 = n by omega, hsL]; rfl
      rw [e10] at hrst
      rw [e11] at hrfi
      have hL3 := Plt.zj6 y.id L
      have hLl : L.length ≤ 200 := by rw [← hL]; exact Nat.le_trans (slices_len _ _) hsh.1
      have h30 : (Plt.zd6 y.id L)[0]? = some (y.id, s0.1, s0.2) := by unfold Plt.zd6; rw [List.getElem?_map, hs00]; rfl
      have h3n : (Plt.zd6 y.id L)[n]? = some (y.id, sL.1, sL.2) := by unfold Plt.zd6; rw [List.getElem?_map, hsL]; rfl
      obtain ⟨bl, sl', rfl, rfl⟩ := OW.some hSl (by omega)
      have gl0 : ∀ (jj : Nat) (u : Value), ([.int .i64 y.id, .int .i64 s0.1, .int .i64 s0.2] : List Value)[jj]? = some u → ((Plt.zd6 y.id L).flatMap zj8 ++ sl').toArray[0 + 0 * 3 + jj]? = some u := (Pat.flat ze9 (Plt.zd6 y.id L) sl').get h30
      have gl1 : ((Plt.zd6 y.id L).flatMap zj8 ++ sl').toArray[1]? = some (.int .i64 s0.1) := by simpa using gl0 1 _ rfl
      have gln : ∀ (jj : Nat) (u : Value), ([.int .i64 y.id, .int .i64 sL.1, .int .i64 sL.2] : List Value)[jj]? = some u → ((Plt.zd6 y.id L).flatMap zj8 ++ sl').toArray[0 + n * 3 + jj]? = some u := (Pat.flat ze9 (Plt.zd6 y.id L) sl').get h3n
      simp only [List.cons_append, List.nil_append]
      as_aux_lemma =>
        repeat' (first | (apply v8; exact rfl; exact dT_) | ((apply yI0 (v := (n : Int))); exact rfl; exact rfl; omega; (constructor <;> omega); exact rfl) | ((apply ym6 (m := 0)); infer_instance; infer_instance; exact rfl; exact rfl; exact rfl; exact rfl; omega) | ((apply zw1 (id := 34) ([⟨bl, Ce ((Plt.zd6 y.id L).flatMap zj8 ++ sl') 139, true⟩]) 18); kernel_rfl; kernel_rfl; exact hS_) | ((apply i8 (fq := 17) (m := 0) (k := 0) (m' := 1)); kernel_rfl; exact rfl; kernel_rfl) | ((apply i8 (fq := 16) (m := 1) (k := 5) (m' := 33)); kernel_rfl; exact rfl; kernel_rfl) | ((apply i8 (fq := 15) (m := 33) (k := 7) (m' := 161)); kernel_rfl; exact rfl; kernel_rfl) | ((apply zw0 (fq := 14) (m := 161) (k1 := 1) (m1 := 163) (k2 := 6) (m2 := 225) (k3 := 8) (m3 := 417)); kernel_rfl; exact rfl; kernel_rfl; exact rfl; kernel_rfl; exact rfl; kernel_rfl) | ((apply i8 (fq := 13) (m := 417) (k := 9) (m' := 929)); kernel_rfl; exact rfl; kernel_rfl) | ((apply i8 (fq := 12) (m := 929) (k := 10) (m' := 1953)); kernel_rfl; exact rfl; kernel_rfl) | ((apply zk8 (fq := 11) (m := 1953) (k1 := 1) (m1 := 1955) (k2 := 6) (m2 := 2017)); kernel_rfl; exact rfl; kernel_rfl; exact rfl; kernel_rfl) | ((apply i8 (fq := 10) (m := 2017) (k := 11) (m' := 4065)); kernel_rfl; exact rfl; kernel_rfl) | ((apply i8 (fq := 9) (m := 4065) (k := 12) (m' := 8161)); kernel_rfl; exact rfl; kernel_rfl) | ((apply i8 (fq := 8) (m := 8161) (k := 13) (m' := 16353)); kernel_rfl; exact rfl; kernel_rfl) | ((apply zd7 (fq := 7) (m := 16353) (k1 := 1) (m1 := 16355)); kernel_rfl; exact rfl; kernel_rfl) | ((apply i8 (fq := 6) (m := 16355) (k := 2) (m' := 16359)); kernel_rfl; exact rfl; kernel_rfl) | ((apply i8 (fq := 5) (m := 16359) (k := 3) (m' := 16367)); kernel_rfl; exact rfl; kernel_rfl) | ((apply i8 (fq := 4) (m := 16367) (k := 4) (m' := 16383)); kernel_rfl; exact rfl; kernel_rfl) | ((apply i8 (fq := 3) (m := 16383) (k := 14) (m' := 32767)); kernel_rfl; exact rfl; kernel_rfl) | ((apply zd7 (fq := 2) (m := 32767) (k1 := 15) (m1 := 65535)); kernel_rfl; exact rfl; kernel_rfl) | ((apply i8 (fq := 1) (m := 65535) (k := 16) (m' := 131071)); kernel_rfl; exact rfl; kernel_rfl) | ((apply zd7 (fq := 0) (m := 131071) (k1 := 17) (m1 := 262143)); kernel_rfl; exact rfl; kernel_rfl) | ((apply i8 (fq := 10) (m := 1955) (k := 2) (m' := 1959)); kernel_rfl; exact rfl; kernel_rfl) | ((apply i8 (fq := 9) (m := 1959) (k := 3) (m' := 1967)); kernel_rfl; exact rfl; kernel_rfl) | ((apply i8 (fq := 8) (m := 1967) (k := 4) (m' := 1983)); kernel_rfl; exact rfl; kernel_rfl) | ((apply zd7 (fq := 7) (m := 1983) (k1 := 6) (m1 := 2047)); kernel_rfl; exact rfl; kernel_rfl) | ((apply i8 (fq := 6) (m := 2047) (k := 11) (m' := 4095)); kernel_rfl; exact rfl; kernel_rfl) | ((apply i8 (fq := 5) (m := 4095) (k := 12) (m' := 8191)); kernel_rfl; exact rfl; kernel_rfl) | ((apply i8 (fq := 4) (m := 8191) (k := 13) (m' := 16383)); kernel_rfl; exact rfl; kernel_rfl) | ((apply zk8 (fq := 13) (m := 225) (k1 := 1) (m1 := 227) (k2 := 8) (m2 := 481)); kernel_rfl; exact rfl; kernel_rfl; exact rfl; kernel_rfl) | ((apply i8 (fq := 12) (m := 481) (k := 9) (m' := 993)); kernel_rfl; exact rfl; kernel_rfl) | ((apply i8 (fq := 11) (m := 993) (k := 10) (m' := 2017)); kernel_rfl; exact rfl; kernel_rfl) | ((apply i8 (fq := 12) (m := 227) (k := 2) (m' := 231)); kernel_rfl; exact rfl; kernel_rfl) | ((apply i8 (fq := 11) (m := 231) (k := 3) (m' := 239)); kernel_rfl; exact rfl; kernel_rfl) | ((apply i8 (fq := 10) (m := 239) (k := 4) (m' := 255)); kernel_rfl; exact rfl; kernel_rfl) | ((apply zd7 (fq := 9) (m := 255) (k1 := 8) (m1 := 511)); kernel_rfl; exact rfl; kernel_rfl) | ((apply i8 (fq := 8) (m := 511) (k := 9) (m' := 1023)); kernel_rfl; exact rfl; kernel_rfl) | ((apply i8 (fq := 7) (m := 1023) (k := 10) (m' := 2047)); kernel_rfl; exact rfl; kernel_rfl) | ((apply i8 (fq := 13) (m := 163) (k := 2) (m' := 167)); kernel_rfl; exact rfl; kernel_rfl) | ((apply i8 (fq := 12) (m := 167) (k := 3) (m' := 175)); kernel_rfl; exact rfl; kernel_rfl) | ((apply i8 (fq := 11) (m := 175) (k := 4) (m' := 191)); kernel_rfl; exact rfl; kernel_rfl) | ((apply zk8 (fq := 10) (m := 191) (k1 := 6) (m1 := 255) (k2 := 8) (m2 := 447)); kernel_rfl; exact rfl; kernel_rfl; exact rfl; kernel_rfl) | ((apply i8 (fq := 9) (m := 447) (k := 9) (m' := 959)); kernel_rfl; exact rfl; kernel_rfl) | ((apply i8 (fq := 8) (m := 959) (k := 10) (m' := 1983)); kernel_rfl; exact rfl; kernel_rfl) | (apply zO6; kernel_rfl) | (apply yt9; exact hS_) | ((first | apply zO7 | apply zA8); exact rfl; exact rfl) | ((first | apply ym5); exact rfl; exact rfl) | (apply yG5; infer_instance; exact rfl; exact rfl) | (apply ym6; infer_instance; infer_instance; exact rfl; exact rfl; (first | exact rfl | omega); exact rfl; (first | assumption | omega | decide)) | (apply ym8; infer_instance; exact rfl; exact kN_; assumption; exact rfl) | (apply yG4; infer_instance; exact rfl; exact kN_; assumption; exact nT_; exact rfl) | (apply w7; first | refine u9 (h := ?_) | refine y9 (h := ?_) | refine w8 (h := ?_) | refine q6 (h := ?_) | refine q0 (h := ?_)) | (apply q7; first | refine q8 (h := ?_) | refine q9 (h := ?_)) | ((first | apply s9 | apply x9 | apply z8 | apply s7 | apply s8 | apply w4 | apply z9 | apply w5)) | ((first | apply w6 | apply z6 | apply z0 | apply p5 | apply y0 | apply z7)))
        all_goals
          refine zq2 () trivial rfl ?_ ?_
          · exact fS_
          · (try dsimp only); rw [hrst, hrfi]; (try simp only [List.cons_append, List.nil_append]); exact hS_
  rintro ⟨⟩ -
  (try dsimp only)
  repeat' (first | ((first | apply w9 | apply y8 | apply x8 | apply p4); exact rfl; exact rfl) | ((first | apply s9 | apply x9 | apply z8 | apply s7 | apply s8 | apply w4 | apply z9 | apply w5)) | ((first | apply w6 | apply z6 | apply z0 | apply p5 | apply y0 | apply z7)))
  apply j9 (σ := Nat × (Option Addr × Nat) × List Ent) (Fs := fun t => [(18, .int .i64 t.1), (17, .slice t.2.1.1 (List.map (Plt.zb9 (Plt.zc0 p.items) y) (items.take t.1)).length t.2.1.2), (6, ptr b6), (9, ptr b9), (8, ptr b8), (7, ptr b7), (3, ptr b3), (2, .int .i64 i), (1, .slice ar i cr)])
    (Ls := fun t => ⟨b9, Ce [.int .i64 y.id, .int .i64 r.start, .int .i64 r.fin, .slice ai items.length ci, .slice asl (Plt.zd6 y.id L).length csl, .slice none 0 0, .slice none 0 0, .slice none 0 0, .slice none 0 0, .slice none 0 0] 106, true⟩ :: ⟨b7, Ce [.int .i64 y.id, .int .i64 y.mach, .int .i64 y.rel, .slice x1 y.src.length k1, .slice x2 y.table.length k2, .slice x3 y.unread.length k3] 93, true⟩ :: ⟨b8, Ce [.int .i64 m.id, .int .i64 m.sweeps, .int .i64 m.rate, .slice z1 m.caps.length l1, .slice z2 m.shifts.length l2] 85, true⟩ :: ⟨b3, Ce [.slice (some ⟨bm, om, none⟩) p.ms.length c1, .slice a2 p.items.length c2, .slice (some ⟨bp, op, none⟩) p.passes.length c3] 33, true⟩ :: ⟨b6, Ce [.int .i64 0, .int .i64 0, .int .i64 0, .slice none 0 0, .slice none 0 0, .slice none 0 0, .slice none 0 0, .slice none 0 0, .slice none 0 0, .slice none 0 0] 106, true⟩ :: (t.2.2 ++ (NSl ++ (NI ++ []))))
    (I := fun t => t.1 ≤ items.length ∧ OW 163 2 zo0 (.slice t.2.1.1 (List.map (Plt.zb9 (Plt.zc0 p.items) y) (items.take t.1)).length t.2.1.2) (List.map (Plt.zb9 (Plt.zc0 p.items) y) (items.take t.1)) t.2.2) (μ := fun t => items.length - t.1) (s0 := (0, (none, 0), []))
  · exact ⟨Nat.zero_le _, OW.nil⟩
  · exact fS_
  · exact hS_
  rintro ⟨n, ⟨af, cf⟩, NF⟩ ⟨hn, hF⟩
  dsimp only at hn hF ⊢
  have oF := hF.own
  have hfl : (List.map (Plt.zb9 (Plt.zc0 p.items) y) (items.take n)).length ≤ 2000 := by rw [List.length_map, List.length_take]; omega
  by_cases hnl : n < items.length
  · obtain ⟨x, hx⟩ : ∃ x, items[n]? = some x := ⟨_, List.getElem?_eq_getElem hnl⟩
    obtain ⟨z, hzm, rfl⟩ := List.mem_map.1 (hmem.1 x (List.mem_of_getElem? hx))
    obtain ⟨kz, hz⟩ := List.getElem?_of_mem hzm
    obtain ⟨⟨fi, fs⟩, hfd⟩ : ∃ f, Plt.zb9 (Plt.zc0 p.items) y z.id = f := ⟨_, rfl⟩
    have hfi := Plt.zV7 (Plt.zc0 p.items) y z.id
    rw [hfd] at hfi
    dsimp only at hfi
    subst hfi
    have hfs : (Plt.zb9 (Plt.zc0 p.items) y z.id).st = fs := by rw [hfd]
    have e1 : List.map (Plt.zb9 (Plt.zc0 p.items) y) (items.take (n + 1)) = List.map (Plt.zb9 (Plt.zc0 p.items) y) (items.take n) ++ [⟨z.id, fs⟩] := by rw [take_snoc hx, List.map_append, List.map_cons, hfd]; rfl
    obtain ⟨bI, sI, rfl, rfl⟩ := OW.some hO (by omega)
    have q1 := (Pat.flat j8 items sI).one hx rfl
    simp only [List.cons_append, List.nil_append]
    as_aux_lemma =>
      repeat' (first | (apply v8; exact rfl; exact dT_) | ((first | ((apply t8 (f := 54)); exact rfl) | ((apply t9 (f := 54)); exact rfl; kernel_rfl; exact rfl; exact sJ_)); exact eV_; exact (fun w hw => yf6 hfs hv hy hz w (hV.keep hw (by exact aO_)) (hPV'.keep hw (by exact aO_)))) | (apply zc4 (enc := zo0) (ys := [(⟨z.id, fs⟩ : Srt.Fd)]); infer_instance; infer_instance; infer_instance; exact rfl; exact zl0; exact zG8; exact rfl; exact rfl; exact rfl; assumption; exact rL_; (exact fun w hw => SV.lit [(⟨z.id, fs⟩ : Srt.Fd)] zl0 hw (by exact aT_) rfl rfl (by decide)); (first | decide | (constructor <;> (try simp only [List.length_cons, List.length_nil]) <;> omega) | (constructor <;> simp <;> omega)); intro a_ cp_ N_ hO_; have oN_ := hO_.own; (try simp only [List.nil_append, List.append_assoc] at hO_); (try simp only [List.append_eq, List.append_assoc, List.cons_append, List.nil_append])) | ((first | apply w9 | apply y8 | apply x8 | apply p4); exact rfl; exact rfl) | (apply w7; first | refine u9 (h := ?_) | refine y9 (h := ?_) | refine w8 (h := ?_) | refine q6 (h := ?_) | refine q0 (h := ?_)) | ((first | apply p3 | apply o8 | apply l0 | apply p0); exact rfl; exact rfl; exact rfl) | ((first | apply j0 | apply ze5 | apply zt7); exact rfl; exact rfl; exact rfl; (constructor <;> omega)) | (apply o9; infer_instance; exact rfl; exact rfl) | ((first | apply s9 | apply x9 | apply z8 | apply s7 | apply s8 | apply w4 | apply z9 | apply w5)) | ((first | apply w6 | apply z6 | apply z0 | apply p5 | apply y0 | apply z7)) | ((apply zg0 (id := 39) [] 16); kernel_rfl; kernel_rfl; simp only [List.take_succ_cons, List.take_zero, List.drop_succ_cons, List.drop_zero]) | (apply za6; try simp only [za9, List.cons_append, List.nil_append]) | ((first | apply i9 | apply n9 | apply m5); exact rfl; exact rfl) | (apply m0; first | refine k8 (h := ?_) | refine p7 (h := ?_) | refine m6 (h := ?_) | refine d8 (h := ?_) | refine d7 (h := ?_)) | (apply zx1; first | refine zD2 (h := ?_)) | (apply zc3; infer_instance; infer_instance; exact rfl; exact rfl; (first | exact rfl | omega); exact rfl; (first | assumption | omega | decide)) | (apply zd9; refine zf0 (h := fun _ => ?_)))
      rw [← e1] at hO_ ⊢
      refine o0 (n + 1, (a_, cp_), N_) ⟨by dsimp only; omega, hO_⟩ (by dsimp only; omega) ?_ ?_
      · exact fS_
      · (try simp only [List.cons_append, List.nil_append]); exact hS_
  rw [List.take_of_length_le (by omega)] at hF hfl ⊢
  have hn2 : n = items.length := by omega
  repeat' (first | (apply v9; exact rfl; exact dF_) | ((first | ((apply f5 (f := 31)); exact rfl) | ((apply d6 (f := 31)); exact rfl; exact rfl; exact sJ_)); exact eV_; exact (fun w hw => yA1 hres w (hcaps.keep hw (by exact aO_)) (hF.sv zl0 (by exact rL_) hw)); rintro v N ⟨t1, u1, t2, u2, t3, u3, t4, u4, t5, u5, ss, N1, M1, N2, N3, N4, N5, rfl, g1, g2, g3, g4, g5, g6, rfl, oX⟩ <;> (try simp only [List.cons_append, List.nil_append, List.append_assoc])) | ((first | apply w9 | apply y8 | apply x8 | apply p4); exact rfl; exact rfl) | (apply w7; first | refine u9 (h := ?_) | refine y9 (h := ?_) | refine w8 (h := ?_) | refine q6 (h := ?_) | refine q0 (h := ?_)) | ((first | apply p3 | apply o8 | apply l0 | apply p0); exact rfl; exact rfl; exact rfl) | (apply q7; first | refine q8 (h := ?_) | refine q9 (h := ?_)) | (apply o9; infer_instance; exact rfl; exact rfl) | ((first | apply s9 | apply x9 | apply z8 | apply s7 | apply s8 | apply w4 | apply z9 | apply w5)) | ((first | apply w6 | apply z6 | apply z0 | apply p5 | apply y0 | apply z7)))
  apply p8; apply zb0 Try.results38; exact rV_; intro w' hw
  have hrL : r.slices = L := by
    rw [hrs]
    split
    · rename_i g
      rw [← hL, hne0 g, Plt.zC6]
    · rfl
  have hown : ∀ x ∈ NI ++ (NSl ++ (N1 ++ (M1 ++ (N2 ++ (N3 ++ (N4 ++ N5)))))), x.own = true := zc9 hO.own (zc9 hSl.own (zc9 g1.own (zc9 g2.own (zc9 g3.own (zc9 g4.own (zc9 g5.own g6.own))))))
  have sI : Shw (NI ++ (NSl ++ (N1 ++ (M1 ++ (N2 ++ (N3 ++ (N4 ++ N5))))))) _ := Shw.left (Shw.ow j8 hO)
  have sS : Shw (NI ++ (NSl ++ (N1 ++ (M1 ++ (N2 ++ (N3 ++ (N4 ++ N5))))))) _ := Shw.right (Shw.left (Shw.ow ze9 hSl))
  have s1 : Shw (NI ++ (NSl ++ (N1 ++ (M1 ++ (N2 ++ (N3 ++ (N4 ++ N5))))))) _ := Shw.right (Shw.right (Shw.left (Shw.ow zl1 g1)))
  have s2 : Shw (NI ++ (NSl ++ (N1 ++ (M1 ++ (N2 ++ (N3 ++ (N4 ++ N5))))))) _ := Shw.right (Shw.right (Shw.right (Shw.left (Shw.ll j8 g2))))
  have s3 : Shw (NI ++ (NSl ++ (N1 ++ (M1 ++ (N2 ++ (N3 ++ (N4 ++ N5))))))) _ := Shw.right (Shw.right (Shw.right (Shw.right (Shw.left (Shw.ow j8 g3)))))
  have s4 : Shw (NI ++ (NSl ++ (N1 ++ (M1 ++ (N2 ++ (N3 ++ (N4 ++ N5))))))) _ := Shw.right (Shw.right (Shw.right (Shw.right (Shw.right (Shw.left (Shw.ow j8 g4))))))
  have s5 : Shw (NI ++ (NSl ++ (N1 ++ (M1 ++ (N2 ++ (N3 ++ (N4 ++ N5))))))) _ := Shw.right (Shw.right (Shw.right (Shw.right (Shw.right (Shw.right (Shw.left (Shw.ow j8 g5)))))))
  have s6 : Shw (NI ++ (NSl ++ (N1 ++ (M1 ++ (N2 ++ (N3 ++ (N4 ++ N5))))))) _ := Shw.right (Shw.right (Shw.right (Shw.right (Shw.right (Shw.right (Shw.right (Shw.ow ze4 g6)))))))
  refine ⟨_, NI ++ (NSl ++ (N1 ++ (M1 ++ (N2 ++ (N3 ++ (N4 ++ N5)))))), rfl, ⟨⟨y.id, r.start, r.fin, (ai, items.length, ci), (asl, (Plt.zd6 y.id L).length, csl), (t1, r.res.stackers.length, u1), (t2, r.res.swept.length, u2), (t3, r.res.over.length, u3), (t4, r.res.rej.length, u4), (t5, r.res.evs.length, u5)⟩, rfl, fun wa wb La Lb ha hb => ?_, hown⟩, hw.sub (by exact hS_), hown⟩
  refine ⟨hc.pass.symm, rfl, rfl, ?_, ?_, ⟨ss, s1 _ _ _ _ ha hb, s2 _ _ _ _ ha hb⟩, s4 _ _ _ _ ha hb, s5 _ _ _ _ ha hb, s3 _ _ _ _ ha hb, s6 _ _ _ _ ha hb⟩
  · rw [← hitr]; exact sI _ _ _ _ ha hb
  · rw [hc.pass, hrL]; exact sS _ _ _ _ ha hb
end Go.Proofs.Ytdahckhlfldkkaa
namespace Go.Proofs.Ytdahckhlfldkkaa
open Go Go.Sx Go.RowKit
attribute [local irreducible] WL WC WQ WR WB WF QB St Exit.then Exit.inBlock Exit.noGoto bodyPost roundPost zc1 YR RG BM Calls B zc7 ze3
theorem zL1 {q : PlD} {p : Plt.g8} {a : Nat} {k : Int} (hk : Plt.zc6 p = (a, k)) (w : World) (h : PlV w q p) : Calls Try.prog 13 #[plV q] w fun e w' => e = .returned (.tuple #[.int .i64 a, .int .i64 k]) ∧ Below w.heap.size w w' := by
  have := ya8 w h; rw [hk] at this; exact this
theorem zX3 {q : PlD} {p : Plt.g8} {a : Nat} {k : Int} (hvf : Plt.zc6 p = (a, k)) (hk : k ≠ 0) (w : World) (h : PlV w q p) : Calls Try.prog 15 #[plV q] w fun e w' => e = .returned (.tuple #[.slice none 0 0, .int .i64 k]) ∧ Below w.heap.size w w' := by
  have hV := h
  obtain ⟨⟨a1, n1, c1⟩, ⟨a2, n2, c2⟩, ⟨a3, n3, c3⟩, ds, ys⟩ := q
  dsimp only [sdV, plV] at h ⊢
  refine zd2 Try.func15 rfl Try.ntmps15 rfl (Rep.start w) ?_
  repeat' (first | (apply v8; exact rfl; exact dT_) | ((first | ((apply t8 (f := 13)); exact rfl) | ((apply t9 (f := 13)); exact rfl; kernel_rfl; exact rfl; exact sJ_)); exact eV_; exact (fun w hw => zL1 hvf w (hV.keep hw (by exact aO_)))) | ((first | apply w9 | apply y8 | apply x8); exact rfl; exact rfl) | (apply w7; first | refine u9 (h := ?_) | refine y9 (h := ?_) | refine w8 (h := ?_) | refine q6 (h := ?_) | refine q0 (h := ?_)) | ((first | apply p3 | apply l8 | apply p0); exact rfl; exact rfl; exact rfl) | (apply zc5; exact rfl; exact rfl; exact rfl; intro _) | ((first | apply s9 | apply x9 | apply z8 | apply s7 | apply s8 | apply w4 | apply z9 | apply w5)) | ((first | apply w6 | apply z6 | apply z0 | apply p5 | apply y0 | apply z7)))
  apply p8; apply zf9 Try.results15; exact rV_; exact rV_; intro w' hw
  exact ⟨rfl, hw.below (show AO _ from by exact aO_)⟩
set_option maxHeartbeats 16000000 in
set_option maxRecDepth 100000 in
theorem zr3 {q : PlD} {p : Plt.g8} (hv : Plt.Valid p) (hvf : Plt.zc6 p = (0, 0)) (w : World) (h : PlV w q p) : Calls Try.prog 15 #[plV q] w fun e w' => ∃ v N, e = .returned v ∧ ye7 (Plt.za2 p) 0 v N ∧ Rep w w' N ∧ ∀ x ∈ N, x.own = true := by
  have hV := h
  obtain ⟨⟨a1, n1, c1⟩, ⟨a2, n2, c2⟩, ⟨a3, n3, c3⟩, ds, ys⟩ := q
  obtain ⟨hM, hI, hP, lm, lp, hmach, hpass⟩ := h
  dsimp only [sdV, plV] at hM hI hP lm lp hmach hpass ⊢
  obtain ⟨_, _, e1, hc1, hop1⟩ := hM.open
  cases e1
  obtain ⟨_, _, e2, hc2, hop2⟩ := hI.open
  cases e2
  obtain ⟨_, _, e3, hc3, hop3⟩ := hP.open
  cases e3
  rw [lm] at hc1 hop1 hM hV ⊢
  rw [lp] at hc3 hop3 hP hV ⊢
  have hsmall := hv.small
  have hpl := Plt.zh6 p
  refine zd2 Try.func15 rfl Try.ntmps15 rfl (Rep.start w) ?_
  repeat' (first | (apply v9; exact rfl; exact dF_) | ((first | ((apply t8 (f := 13)); exact rfl) | ((apply t9 (f := 13)); exact rfl; kernel_rfl; exact rfl; exact sJ_)); exact eV_; exact (fun w hw => zL1 hvf w (hV.keep hw (by exact aO_)))) | ((first | apply w9 | apply y8 | apply x8); exact rfl; exact rfl) | (apply w7; first | refine u9 (h := ?_) | refine y9 (h := ?_) | refine w8 (h := ?_) | refine q6 (h := ?_) | refine q0 (h := ?_)) | ((first | apply p3 | apply l8 | apply p0); exact rfl; exact rfl; exact rfl) | (apply zc5; exact rfl; exact rfl; exact rfl; intro _) | ((first | apply s9 | apply x9 | apply z8 | apply s7 | apply s8 | apply w4 | apply z9 | apply w5)) | ((first | apply w6 | apply z6 | apply z0 | apply p5 | apply y0 | apply z7)))
  rename_i b1
  apply j9 (σ := Nat × List RD × (Option Addr × Nat) × List Ent × List Ent) (Fs := fun t => [(7, .int .i64 t.1), (6, .slice t.2.2.1.1 t.2.1.length t.2.2.1.2), (1, ptr b1)])
    (Ls := fun t => t.2.2.2.1 ++ (t.2.2.2.2 ++ (⟨b1, Ce [.slice a1 p.ms.length c1, .slice a2 p.items.length c2, .slice a3 p.passes.length c3] 33, true⟩ :: [])))
    (I := fun t => (t.1 ≤ p.passes.length ∧ t.2.1.length = t.1) ∧ (∀ x ∈ t.2.2.2.2, x.own = true) ∧ Shw t.2.2.2.2 (fun w => ∀ (k : Nat) (d : RD) (r : Plt.Run), t.2.1[k]? = some d → (Plt.za2 p)[k]? = some r → RunV w d r) ∧ OW 106 10 zG9 (.slice t.2.2.1.1 t.2.1.length t.2.2.1.2) t.2.1 t.2.2.2.1)
    (μ := fun t => p.passes.length - t.1) (s0 := (0, [], (none, 0), [], []))
  · exact ⟨⟨Nat.zero_le _, rfl⟩, by simp, (fun _ w _ _ _ _ k d r h => by simp at h), OW.nil⟩
  · exact fS_
  · (try dsimp only); simp only [List.nil_append]; exact hS_
  rintro ⟨i, rds, ⟨ar, cr⟩, NR, NX⟩ ⟨⟨hi, hrl⟩, oX, hsh, hO⟩
  dsimp only at hi hrl oX hsh hO ⊢
  have oR := hO.own
  by_cases hlt : i < p.passes.length
  · obtain ⟨y, hy⟩ : ∃ y, p.passes[i]? = some y := ⟨_, List.getElem?_eq_getElem hlt⟩
    obtain ⟨r, hr⟩ : ∃ r, (Plt.za2 p)[i]? = some r := ⟨_, List.getElem?_eq_getElem (by omega)⟩
    have hRR0 : ∀ w', SV w' 10 zG9 (.slice ar rds.length cr) rds → (∀ (k : Nat) (d : RD) (r : Plt.Run), rds[k]? = some d → (Plt.za2 p)[k]? = some r → RunV w' d r) → RunsV w' (.slice ar i cr) rds ((Plt.za2 p).take i) := fun w' h1 h2 => by
      refine ⟨by rw [hrl] at h1; exact h1, by rw [List.length_take]; omega, fun k d r' hk hr' => ?_⟩
      have hkl := (List.getElem?_eq_some_iff.1 hk).1
      rw [List.getElem?_take_of_lt (by omega)] at hr'
      exact h2 k d r' hk hr'
    have hRnext : ∀ (NW : List Ent) (d : RD), Shw NW (fun w => RunV w d r) → Shw (NW ++ NX) (fun w => ∀ (k : Nat) (d' : RD) (r : Plt.Run), (rds ++ [d])[k]? = some d' → (Plt.za2 p)[k]? = some r → RunV w d' r) := fun NW d hRV w0 w1 L L0 hra hw k d' r' hk hr2 => by
      by_cases hki : k < rds.length
      · rw [List.getElem?_append_left hki] at hk
        exact (Shw.right hsh) w0 w1 L L0 hra hw k d' r' hk hr2
      · have : k = rds.length := by
          have h := (List.getElem?_eq_some_iff.1 hk).1
          rw [List.length_append, List.length_singleton] at h
          omega
        subst this
        rw [List.getElem?_append_right (Nat.le_refl _), Nat.sub_self] at hk
        cases hk
        rw [hrl, hr] at hr2
        cases hr2
        exact (Shw.left hRV) w0 w1 L L0 hra hw
    have hrl60 : rds.length ≤ 60 := by omega
    have hRR : ∀ w', Rep w w' (NR ++ (NX ++ (⟨b1, Ce [.slice a1 p.ms.length c1, .slice a2 p.items.length c2, .slice a3 p.passes.length c3] 33, true⟩ :: []))) → RunsV w' (.slice ar i cr) rds ((Plt.za2 p).take i) := fun w' hw => hRR0 w' (hO.sv zp2 (by exact rL_) hw) (hsh _ _ _ _ (by exact rL_) hw)
    subst hrl
    as_aux_lemma =>
      repeat' (first | (apply v8; exact rfl; exact dT_) | ((first | ((apply f5 (f := 38)); exact rfl) | ((apply d6 (f := 38)); exact rfl; exact rfl; exact sJ_)); exact eV_; exact (fun w hw => yk8 hv hy hr w (hV.keep hw (by exact aO_)) (hRR w hw)); rintro v NW ⟨⟨d1, d2, d3, ⟨u1, v1, t1⟩, ⟨u2, v2, t2⟩, ⟨u3, v3, t3⟩, ⟨u4, v4, t4⟩, ⟨u5, v5, t5⟩, ⟨u6, v6, t6⟩, ⟨u7, v7, t7⟩⟩, rfl, hRV, oW⟩ <;> (try simp only [List.cons_append, List.nil_append, List.append_assoc])) | (apply zc4 (enc := zG9) (ys := [(⟨d1, d2, d3, (u1, v1, t1), (u2, v2, t2), (u3, v3, t3), (u4, v4, t4), (u5, v5, t5), (u6, v6, t6), (u7, v7, t7)⟩ : RD)]); infer_instance; infer_instance; infer_instance; exact rfl; exact zp2; exact zV5; exact rfl; exact rfl; exact rfl; assumption; exact rL_; (exact fun w hw => SV.lit [(⟨d1, d2, d3, (u1, v1, t1), (u2, v2, t2), (u3, v3, t3), (u4, v4, t4), (u5, v5, t5), (u6, v6, t6), (u7, v7, t7)⟩ : RD)] zp2 hw (by exact aT_) rfl rfl (by decide)); (first | decide | (constructor <;> (try simp only [List.length_cons, List.length_nil]) <;> omega) | (constructor <;> simp <;> omega)); intro a_ cp_ N_ hO_; have oN_ := hO_.own; (try simp only [List.nil_append, List.append_assoc] at hO_); (try simp only [List.append_eq, List.append_assoc, List.cons_append, List.nil_append])) | ((first | apply w9 | apply y8 | apply x8); exact rfl; exact rfl) | (apply w7; first | refine u9 (h := ?_) | refine y9 (h := ?_) | refine w8 (h := ?_) | refine q6 (h := ?_) | refine q0 (h := ?_)) | ((first | apply p3 | apply l8 | apply p0); exact rfl; exact rfl; exact rfl) | (apply j0; exact rfl; exact rfl; exact rfl; (constructor <;> omega)) | (apply o9; infer_instance; exact rfl; exact rfl) | (apply m9; refine l9 (h := fun _ => ?_)) | ((first | apply s9 | apply x9 | apply z8 | apply s7 | apply s8 | apply w4 | apply z9 | apply w5)) | ((first | apply w6 | apply z6 | apply z0 | apply p5 | apply y0 | apply z7)))
      refine o0 (rds.length + 1, rds ++ [(⟨d1, d2, d3, (u1, v1, t1), (u2, v2, t2), (u3, v3, t3), (u4, v4, t4), (u5, v5, t5), (u6, v6, t6), (u7, v7, t7)⟩ : RD)], (a_, cp_), N_, NW ++ NX) ⟨⟨by dsimp only; omega, by simp⟩, zc9 oW oX, hRnext _ _ hRV, hO_⟩ (by dsimp only; omega) ?_ ?_
      · exact fS_
      · (try dsimp only); simp only [List.append_assoc, List.cons_append, List.nil_append]; exact hS_
  obtain rfl : i = p.passes.length := by omega
  repeat' (first | (apply v9; exact rfl; exact dF_) | ((first | apply w9 | apply y8 | apply x8); exact rfl; exact rfl) | (apply w7; first | refine u9 (h := ?_) | refine y9 (h := ?_) | refine w8 (h := ?_) | refine q6 (h := ?_) | refine q0 (h := ?_)) | ((first | apply p3 | apply l8 | apply p0); exact rfl; exact rfl; exact rfl) | (apply o9; infer_instance; exact rfl; exact rfl) | ((first | apply s9 | apply x9 | apply z8 | apply s7 | apply s8 | apply w4 | apply z9 | apply w5)) | ((first | apply w6 | apply z6 | apply z0 | apply p5 | apply y0 | apply z7)))
  apply p8; apply zf9 Try.results15; exact rV_; exact rV_; intro w' hw
  have hsv : Shw (NR ++ NX) (fun w => RunsV w (.slice ar rds.length cr) rds (Plt.za2 p)) := fun w0 w1 L L0 hra hw => ⟨(Shw.left (Shw.ow zp2 hO)) _ _ _ _ hra hw, by omega, (Shw.right hsh) _ _ _ _ hra hw⟩
  have e9 : rds.length = (Plt.za2 p).length := by omega
  rw [e9] at hsv ⊢
  exact ⟨_, NR ++ NX, rfl, ⟨ar, cr, rds, rfl, ⟨hsv, e9⟩, zc9 oR oX⟩, hw.sub (by (try simp only [List.append_assoc]); exact hS_), zc9 oR oX⟩
end Go.Proofs.Ytdahckhlfldkkaa
namespace Go.Sx.Plt
theorem zY0 {x : Int} : ∀ {l : List (List Int)} {i k : Nat}, zN6 x i l = some k → i ≤ k ∧ x ∈ l.getD (k - i) []
  | [], _, _, h => by simp [zN6] at h
  | a :: r, i, k, h => by
    rw [zN6] at h
    by_cases hx : x ∈ a
    · rw [if_pos hx] at h; cases h; exact ⟨Nat.le_refl _, by simpa using hx⟩
    · rw [if_neg hx] at h
      obtain ⟨h1, h2⟩ := zY0 h
      refine ⟨by omega, ?_⟩
      rw [show k - i = (k - (i + 1)) + 1 from by omega]
      simpa using h2
theorem zX9 {x : Int} : ∀ {l : List (List Int)} {i : Nat}, zN6 x i l = none → x ∉ l.flatten
  | [], _, _ => by simp
  | a :: r, i, h => by
    rw [zN6] at h
    by_cases hx : x ∈ a
    · rw [if_pos hx] at h; cases h
    · rw [if_neg hx] at h
      rw [List.flatten_cons, List.mem_append, not_or]
      exact ⟨hx, zX9 h⟩
def zm5 (t : Int) : List (Int × Int) → Int
  | [] => 0
  | s :: r => max 0 (min s.2 t - s.1) + zm5 t r
theorem zV1 (t : Int) (s : Int × Int) : ∀ l, zm5 t (l ++ [s]) = zm5 t l + max 0 (min s.2 t - s.1)
  | [] => by simp [zm5]
  | a :: l => by rw [List.cons_append, zm5, zm5, zV1 t s l]; omega
theorem zN7 (t : Int) : ∀ l, 0 ≤ zm5 t l
  | [] => by simp [zm5]
  | a :: l => by have := zN7 t l; rw [zm5]; omega
theorem zJ7 {t : Int} : ∀ {l : List (Int × Int)} {e : Int}, Chain e l → t ≤ e → zm5 t l = 0
  | [], _, _, _ => rfl
  | s :: r, e, h, ht => by
    obtain ⟨h1, h2⟩ := h
    rw [zm5, zJ7 h2 (by omega)]
    omega
theorem zO9 {t : Int} : ∀ {l : List (Int × Int)} {e q : Int}, Chain e l → 0 ≤ q → ((∃ m, zg3 l q = some m ∧ m < t) ↔ q < zm5 t l)
  | [], e, q, _, hq => by simp [zg3, zm5]; omega
  | s :: r, e, q, h, hq => by
    obtain ⟨h1, h2⟩ := h
    rw [zg3, zm5]
    by_cases hs : q < s.2 - s.1
    · rw [if_pos hs]
      have hb := zN7 t r
      constructor
      · rintro ⟨m, e1, hm⟩
        cases e1
        omega
      · intro g
        refine ⟨_, rfl, ?_⟩
        by_cases ht : t ≤ s.2
        · rw [zJ7 h2 ht] at g; omega
        · omega
    · rw [if_neg hs, zO9 h2 (by omega)]
      by_cases ht : t ≤ s.2
      · rw [zJ7 h2 ht]; omega
      · omega
theorem yv9 {x : Int} {l : List Int} (hn : l.Nodup) {d : Nat} : x ∈ l.take d ↔ ∃ i, zn4 x l = some i ∧ i < d := by
  constructor
  · intro h
    obtain ⟨i, hi⟩ := List.getElem?_of_mem h
    have hil := (List.getElem?_eq_some_iff.1 hi).1
    rw [List.length_take] at hil
    rw [List.getElem?_take_of_lt (by omega)] at hi
    refine ⟨i, zN9 (fun j hj hjx => ?_) hi, by omega⟩
    have := (List.getElem?_inj (List.getElem?_eq_some_iff.1 hjx).1 hn).1 (hjx.trans hi.symm)
    omega
  · rintro ⟨i, h, hd⟩
    exact List.mem_of_getElem? (i := i) (by rw [List.getElem?_take_of_lt hd]; exact (zp3 h).1)
theorem yl3 {r : Run} {x rate t e : Int} (hch : Chain e r.slices) (hr : 1 ≤ rate) (hn : r.items.Nodup) : zn1 r x rate t = true ↔ x ∈ r.items.take (min (zm5 t r.slices * rate) r.items.length).toNat := by
  rw [yv9 hn]
  unfold zn1
  cases hi : zn4 x r.items with
  | none => simp
  | some i =>
    dsimp only
    have hb := zO9 (t := t) (q := (i : Int) / rate) hch (Int.ediv_nonneg (by omega) (by omega))
    have h2 : (i : Int) / rate < zm5 t r.slices ↔ (i : Int) < zm5 t r.slices * rate := Int.ediv_lt_iff_lt_mul (by omega)
    have hil := (List.getElem?_eq_some_iff.1 (zp3 hi).1).1
    have h0 : 0 ≤ zm5 t r.slices * rate := Int.mul_nonneg (zN7 t _) (by omega)
    constructor
    · intro h
      refine ⟨i, rfl, ?_⟩
      have : (i : Int) < zm5 t r.slices * rate := h2.1 (hb.1 (by
        cases hm : zg3 r.slices ((i : Int) / rate) with
        | none => rw [hm] at h; cases h
        | some m => rw [hm] at h; exact ⟨m, rfl, of_decide_eq_true h⟩))
      omega
    · rintro ⟨j, e1, hj⟩
      cases e1
      obtain ⟨m, hm, hmt⟩ := hb.2 (h2.2 (by omega))
      rw [hm]
      exact decide_eq_true hmt
theorem yl4 {p : g8} (hv : Valid p) {n : Nat} {y : za3} {r : Run} {m : zb6} {x t : Int} (hy : p.passes[n]? = some y) (hr : (za2 p)[n]? = some r) (hm : zr8 p.ms y.mach = m) (hmr : zi1 m) (hc : yH6 p (za0 p n) m y r ∨ ∃ ready, Ran p (za0 p n) m y r ready) :
    zu0 p x t n = true ↔ x ∈ r.items.take (min (zm5 t r.slices * m.rate) r.items.length).toNat := by
  unfold zu0
  rw [hr, hy]
  dsimp only
  rw [hm]
  rcases hc with hc | ⟨ready, hc⟩
  · rw [hc.eq]
    simp [missed, zn1, zn4]
  · exact yl3 (hc.chain hmr).1 hmr.2.1.1 (by have := (zz9 hc.res).2.2; rwa [zy9] at this)
def plF (r : Run) (x : Int) : Nat → Int × Int
  | 0 => (if x ∈ r.res.over then 3 else 4, 0)
  | k + 1 => if x ∈ r.res.stackers.getD k [] then (2, (k : Int)) else plF r x k
theorem yo1 {x : Int} : ∀ {l : List (List Int)} {j k : Nat}, l.flatten.count x ≤ 1 → x ∈ l.getD j [] → x ∈ l.getD k [] → j = k
  | [], j, k, _, h, _ => by simp at h
  | a :: r, 0, 0, _, _, _ => rfl
  | a :: r, 0, k + 1, hc, h1, h2 => by
    rw [List.flatten_cons, List.count_append] at hc
    have e1 : 0 < a.count x := List.count_pos_iff.2 (by simpa using h1)
    have e2 : 0 < (r.getD k []).count x := List.count_pos_iff.2 (by simpa using h2)
    have e3 := zy8 (x := x) (l := r) (k := k)
    omega
  | a :: r, j + 1, 0, hc, h1, h2 => by
    rw [List.flatten_cons, List.count_append] at hc
    have e1 : 0 < a.count x := List.count_pos_iff.2 (by simpa using h2)
    have e2 : 0 < (r.getD j []).count x := List.count_pos_iff.2 (by simpa using h1)
    have e3 := zy8 (x := x) (l := r) (k := j)
    omega
  | a :: r, j + 1, k + 1, hc, h1, h2 => by
    rw [List.flatten_cons, List.count_append] at hc
    have := yo1 (x := x) (l := r) (j := j) (k := k) (by omega) (by simpa using h1) (by simpa using h2)
    omega
theorem yx8 {r : Run} {x : Int} (hc : r.res.stackers.flatten.count x ≤ 1) : (plF r x r.res.stackers.length).1 = (zp5 r x).1 ∧ (plF r x r.res.stackers.length).2 = (zp5 r x).2.2 := by
  unfold zp5
  cases hs : zN6 x 0 r.res.stackers with
  | none =>
    have hno := zX9 hs
    have : ∀ n, plF r x n = (if x ∈ r.res.over then 3 else 4, 0) := fun n => by
      induction n with
      | zero => rfl
      | succ n ih =>
        rw [plF, if_neg, ih]
        intro hm
        have e2 : 0 < (r.res.stackers.getD n []).count x := List.count_pos_iff.2 hm
        have e3 := zy8 (x := x) (l := r.res.stackers) (k := n)
        exact hno (List.count_pos_iff.1 (by omega))
    rw [this]
    dsimp only
    split <;> exact ⟨rfl, rfl⟩
  | some k =>
    obtain ⟨_, hk⟩ := zY0 hs
    rw [Nat.sub_zero] at hk
    have hkl : k < r.res.stackers.length := by
      refine Classical.byContradiction fun g => ?_
      rw [List.getD_eq_getElem?_getD, List.getElem?_eq_none (by omega)] at hk
      simp at hk
    have : ∀ n, k < n → plF r x n = (2, (k : Int)) := fun n => by
      induction n with
      | zero => intro h; omega
      | succ n ih =>
        intro h
        rw [plF]
        by_cases e : n = k
        · subst e; rw [if_pos hk]
        · rw [if_neg (fun hm => e (yo1 hc hm hk)), ih (by omega)]
    rw [this _ hkl]
    exact ⟨rfl, rfl⟩
theorem yk4 (r : Run) (x : Int) : (zp5 r x).2.1 = r.pass := by
  unfold zp5
  split
  · rfl
  · split <;> rfl
def atN (p : g8) (x t b : Int) (n : Nat) : Int × Int × Int := match zE8 p x t n with
  | some k => match (za2 p)[k]? with | some r => zp5 r x | none => (0, 0, 0)
  | none => (1, 0, b)
theorem yA4 {p : g8} {x t b : Int} {n : Nat} {r : Run} (h : zu0 p x t n = true) (hr : (za2 p)[n]? = some r) : atN p x t b (n + 1) = zp5 r x := by
  unfold atN
  rw [zE8, if_pos h]
  dsimp only
  rw [hr]
theorem yH9 {p : g8} {x t b : Int} {n : Nat} (h : ¬ zu0 p x t n = true) : atN p x t b (n + 1) = atN p x t b n := by
  unfold atN
  rw [zE8, if_neg h]
theorem yt4 {p : g8} {x t : Int} {k : Nat} {y : Item} (hi : zn4 x (p.items.map Item.id) = some k) (hy : p.items[k]? = some y) (ht : 0 ≤ t ∧ t ≤ 1051898399) : zk6 p x t = (atN p x t y.batch p.passes.length, 0) := by
  unfold zk6 atN
  rw [hi]
  dsimp only
  rw [if_neg (by omega), if_neg (by omega), hy]
  cases zE8 p x t p.passes.length <;> rfl
end Go.Sx.Plt
