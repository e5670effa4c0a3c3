/-
  The given statement PlantWhere: the reference's Where and plant.Where answer alike for each small plant. Conditions: none.
-/
import Derived.Test.YtdahckhlfldkkaaZPWhere3
import Derived.Test.YtdahckhlfldkkaaZPWhere14
import Derived.Test.YtdahckhlfldkkaaZPWhere13
import Derived.Test.YtdahckhlfldkkaaZPWhere2
import Derived.SizedLaws
set_option linter.unusedSimpArgs false
set_option linter.unusedVariables false
set_option linter.unusedSectionVars false
namespace Go.Proofs.Ytdahckhlfldkkaa
open Go Go.Sx Go.RowKit
attribute [local irreducible] WL WC WQ WR WB WF QB St Exit.then Exit.inBlock Exit.noGoto bodyPost roundPost zc9 YR RG BM Calls B zd4 zf2
theorem PlV.eqs {w : World} {q : PlD} {p : Plt.i8} (h : PlV w q p) : ∃ a1 c1 a2 c2 a3 c3 ds ys, q = ⟨(a1, p.ms.length, c1), (a2, p.items.length, c2), (a3, p.passes.length, c3), ds, ys⟩ := by
  obtain ⟨⟨a1, n1, c1⟩, ⟨a2, n2, c2⟩, ⟨a3, n3, c3⟩, ds, ys⟩ := q
  obtain ⟨hM, hI, hP, lm, lp, -, -⟩ := h
  dsimp only [sdV] at hM hI hP lm lp
  obtain ⟨_, _, e1, -, -⟩ := hM.open
  cases e1
  obtain ⟨_, _, e2, -, -⟩ := hI.open
  cases e2
  obtain ⟨_, _, e3, -, -⟩ := hP.open
  cases e3
  exact ⟨a1, c1, a2, c2, a3, c3, ds, ys, by rw [lm, lp]⟩
theorem zH7 {q : PlD} {p : Plt.i8} (hf : Plt.Few p) (w : World) (h : PlV w q p) : Calls Try.prog 7 #[plV q] w fun e w' => ∃ v N, e = .returned v ∧
    (∃ a1 c1 a2 c2 a3 c3 ds ys, v = .agg #[.slice a1 p.ms.length c1, .slice a2 p.items.length c2, .slice a3 p.passes.length c3] ∧ Shw N (fun w => PlV w ⟨(a1, p.ms.length, c1), (a2, p.items.length, c2), (a3, p.passes.length, c3), ds, ys⟩ p) ∧ ∀ x ∈ N, x.own = true) ∧ Rep w w' N ∧ ∀ x ∈ N, x.own = true :=
  (yc8 hf w h).mono fun e w' ⟨v, N, h1, ⟨q, h2, h3, h4⟩, h5, h6⟩ => by
    obtain ⟨a1, c1, a2, c2, a3, c3, ds, ys, rfl⟩ := (h3.all h5).eqs
    exact ⟨v, N, h1, ⟨a1, c1, a2, c2, a3, c3, ds, ys, h2, h3, h4⟩, h5, h6⟩
set_option maxHeartbeats 16000000 in
set_option maxRecDepth 100000 in
theorem yj2 {q q2 : PlD} {p : Plt.i8} (hf : Plt.Few p) (w : World) (h : PlV w q p) (h2 : PlV w q2 p) : Calls Try.prog 10 #[plV q, plV q2] w fun e w' => e = .returned (.bool true) ∧ Below w.heap.size w w' := by
  obtain ⟨u1, x1, u2, x2, u3, x3, dds, yys, rfl⟩ := h.eqs
  obtain ⟨f1, g1, f2, g2, f3, g3, es, zs, rfl⟩ := h2.eqs
  dsimp only [sdV, plV]
  refine za6 Try.func10 rfl Try.ntmps10 rfl (Rep.start w) ?_
  repeat' (first | (apply v9; exact rfl; exact dF_) | (apply p9; exact rfl; exact dF_; exact rfl; exact rfl) | (apply j0; exact rfl; exact dF_) | ((first | ((apply d7 (f := 7)); exact rfl) | ((apply d8 (f := 7)); exact rfl; exact rfl; exact sJ_)); exact eV_; exact (fun w hw => zH7 hf w (h.keep hw (by exact aO_))); rintro v N ⟨a1, c1, a2, c2, a3, c3, ds, ys, rfl, hQ, oQ⟩ <;> (try simp only [List.cons_append, List.nil_append, List.append_assoc])) | ((first | apply w9 | apply y8 | apply x9 | apply p6); exact rfl; exact rfl) | (apply w7; first | refine u9 (h := ?_) | refine y9 (h := ?_) | refine w8 (h := ?_) | refine q7 (h := ?_) | refine q6 (h := ?_)) | ((first | apply p4 | apply l8); exact rfl; exact rfl; exact rfl) | (apply o8; exact rfl; intro _) | (apply zc3; exact rfl; exact rfl; exact rfl; intro _) | (apply q8; first | refine q9 (h := ?_) | refine p3 (h := ?_)) | (apply n8; infer_instance; exact rfl; exact rfl) | ((first | apply s9 | apply x8 | apply z8 | apply s7 | apply s8 | apply w4 | apply z9 | apply w5)) | ((first | apply w6 | apply z6 | apply z0 | apply p7 | apply y0 | apply z7)))
  rename_i b2 b3 b5
  refine zS7 fun w1 hw1 => ?_
  have hb5 := hw1.at (b := b5) (o := Ce [.slice a1 p.ms.length c1, .slice a2 p.items.length c2, .slice a3 p.passes.length c3] 33) (by exact aT_)
  have hb3 := hw1.at (b := b3) (o := Ce [.slice f1 p.ms.length g1, .slice f2 p.items.length g2, .slice f3 p.passes.length g3] 33) (by exact aT_)
  have hbel1 := hw1.below (show AO _ from by exact aO_)
  obtain ⟨hM, hI, hP, lm, lp, hmach, hpass⟩ := hQ _ _ _ _ (by exact rL_) hw1
  obtain ⟨jM, jI, jP, km, kp, jmach, jpass⟩ := h2.keep hw1 (by exact aO_)
  clear hQ h h2 hw1
  dsimp only [sdV] at hM hI hP lm lp hmach hpass jM jI jP km kp jmach jpass
  obtain ⟨_, _, e1, hc1, hop1⟩ := hM.open
  simp only [Value.slice.injEq] at e1
  obtain ⟨rfl, -, rfl⟩ := e1
  obtain ⟨_, _, e1, hc2, hop2⟩ := hI.open
  simp only [Value.slice.injEq] at e1
  obtain ⟨rfl, -, rfl⟩ := e1
  obtain ⟨_, _, e1, hc3, hop3⟩ := hP.open
  simp only [Value.slice.injEq] at e1
  obtain ⟨rfl, -, rfl⟩ := e1
  obtain ⟨_, _, e1, jc1, jop1⟩ := jM.open
  simp only [Value.slice.injEq] at e1
  obtain ⟨rfl, -, rfl⟩ := e1
  obtain ⟨_, _, e1, jc2, jop2⟩ := jI.open
  simp only [Value.slice.injEq] at e1
  obtain ⟨rfl, -, rfl⟩ := e1
  obtain ⟨_, _, e1, jc3, jop3⟩ := jP.open
  simp only [Value.slice.injEq] at e1
  obtain ⟨rfl, -, rfl⟩ := e1
  rw [lm] at hc1 hop1
  rw [lp] at hc3 hop3
  rw [km] at jc1 jop1
  rw [kp] at jc3 jop3
  have hLm := hf.ms
  have hLi := hf.items
  have hLp := hf.passes
  apply i9 (σ := Nat) (Fs := fun i => [(46, .int .i64 i), (45, .int .i64 p.ms.length), (44, .slice f1 p.ms.length g1), (5, ptr b5), (3, ptr b3)]) (Ls := fun _ => []) (I := fun i => i ≤ p.ms.length) (μ := fun i => p.ms.length - i) (s0 := 0)
  · exact Nat.zero_le _
  · exact fS_
  · exact hS_
  intro i hi
  have hi : i ≤ p.ms.length := hi
  by_cases hlt : i < p.ms.length
  · obtain ⟨m, hm⟩ : ∃ y, p.ms[i]? = some y := ⟨_, List.getElem?_eq_getElem hlt⟩
    obtain ⟨da, hda⟩ : ∃ z, ds[i]? = some z := ⟨_, List.getElem?_eq_getElem (by omega)⟩
    obtain ⟨db, hdb⟩ : ∃ z, es[i]? = some z := ⟨_, List.getElem?_eq_getElem (by omega)⟩
    have hA := hmach i da m hda hm
    have hB := jmach i db m hdb hm
    obtain ⟨s1, o1, s2, o2, rfl⟩ := hA.eqs
    obtain ⟨r1, t1, r2, t2, rfl⟩ := hB.eqs
    have hsa := hA.shifts
    have hsb := hB.shifts
    dsimp only [sdV] at hsa hsb
    obtain ⟨_, _, e4, hc4, hop4⟩ := hsa.open
    cases e4
    obtain ⟨_, _, e4, jc4, jop4⟩ := hsb.open
    cases e4
    obtain ⟨bp, op, ccp, ep, fzp, rfl, hkp, hpp⟩ := hop1 (by omega)
    obtain ⟨bn, on_, ccn, en, fzn, rfl, hkn, hpn⟩ := jop1 (by omega)
    have gy : ∀ jj u, ([.int .i64 m.id, .int .i64 m.sweeps, .int .i64 m.rate, .slice s1 m.caps.length o1, .slice s2 m.shifts.length o2] : List Value)[jj]? = some u → ccp[op + i * 5 + jj]? = some u := hpp.get hda
    have gn : ∀ jj u, ([.int .i64 m.id, .int .i64 m.sweeps, .int .i64 m.rate, .slice r1 m.caps.length t1, .slice r2 m.shifts.length t2] : List Value)[jj]? = some u → ccn[on_ + i * 5 + jj]? = some u := hpn.get hdb
    repeat' (first | (apply v8; exact rfl; exact dT_) | ((first | apply w9 | apply y8 | apply x9 | apply p6); exact rfl; exact rfl) | ((first | apply p4 | apply l8); exact rfl; exact rfl; exact rfl) | ((first | apply s9 | apply x8 | apply z8 | apply s7 | apply s8 | apply w4 | apply z9 | apply w5)) | ((first | apply w6 | apply z6 | apply z0 | apply p7 | apply y0 | apply z7)))
    apply zF5 (σ := Nat × Nat) (Ds := fun _ => []) (Fs := fun t => [(7, ptr t.1), (8, ptr t.2), (6, .int .i64 i), (46, .int .i64 i), (45, .int .i64 p.ms.length), (44, .slice (some ⟨bn, on_, none⟩) p.ms.length g1), (5, ptr b5), (3, ptr b3)]) (Ls := fun t => ⟨t.1, Ce [.int .i64 m.id, .int .i64 m.sweeps, .int .i64 m.rate, .slice s1 m.caps.length o1, .slice s2 m.shifts.length o2] 85, true⟩ :: ⟨t.2, Ce [.int .i64 m.id, .int .i64 m.sweeps, .int .i64 m.rate, .slice r1 m.caps.length t1, .slice r2 m.shifts.length t2] 85, true⟩ :: []) (I := fun _ => True)
    · repeat' (first | ((apply zp3 (id := 7) ([]) 14); kernel_rfl; kernel_rfl; exact hS_) | ((apply l9 (fq := 13) (m := 0) (k := 0) (m' := 1)); kernel_rfl; exact rfl; kernel_rfl) | ((apply l9 (fq := 12) (m := 1) (k := 1) (m' := 3)); kernel_rfl; exact rfl; kernel_rfl) | ((apply l9 (fq := 11) (m := 3) (k := 2) (m' := 7)); kernel_rfl; exact rfl; kernel_rfl) | ((apply l9 (fq := 10) (m := 7) (k := 3) (m' := 15)); kernel_rfl; exact rfl; kernel_rfl) | ((apply l9 (fq := 9) (m := 15) (k := 4) (m' := 31)); kernel_rfl; exact rfl; kernel_rfl) | ((apply l9 (fq := 8) (m := 31) (k := 5) (m' := 63)); kernel_rfl; exact rfl; kernel_rfl) | ((apply l9 (fq := 7) (m := 63) (k := 6) (m' := 127)); kernel_rfl; exact rfl; kernel_rfl) | ((apply l9 (fq := 6) (m := 127) (k := 7) (m' := 255)); kernel_rfl; exact rfl; kernel_rfl) | ((apply l9 (fq := 5) (m := 255) (k := 8) (m' := 511)); kernel_rfl; exact rfl; kernel_rfl) | ((apply l9 (fq := 4) (m := 511) (k := 9) (m' := 1023)); kernel_rfl; exact rfl; kernel_rfl) | ((apply zi8 (fq := 3) (m := 1023) (k1 := 10) (m1 := 2047) (k2 := 11) (m2 := 3071)); kernel_rfl; exact rfl; kernel_rfl; exact rfl; kernel_rfl) | ((apply zb7 (fq := 2) (m := 3071) (k1 := 10) (m1 := 4095)); kernel_rfl; exact rfl; kernel_rfl) | ((apply zb7 (fq := 1) (m := 4095) (k1 := 12) (m1 := 8191)); kernel_rfl; exact rfl; kernel_rfl) | ((apply zb7 (fq := 0) (m := 8191) (k1 := 13) (m1 := 16383)); kernel_rfl; exact rfl; kernel_rfl) | ((apply zb7 (fq := 2) (m := 2047) (k1 := 11) (m1 := 4095)); kernel_rfl; exact rfl; kernel_rfl) | (apply zF2; kernel_rfl) | (apply yi0; exact hS_) | ((first | apply zF3 | apply zt1); exact rfl; exact rfl) | (apply zY2; infer_instance; exact rfl; exact kN_; exact nT_; exact rfl) | (apply zU9; infer_instance; infer_instance; exact rfl; exact rfl; (first | exact rfl | omega); exact rfl; (first | assumption | omega | decide)) | (apply yG7; infer_instance; infer_instance; exact rfl; exact kN_; assumption; exact rfl; exact rfl) | (apply o8; exact rfl; intro _) | (apply q8; first | refine q9 (h := ?_) | refine p3 (h := ?_)) | ((first | apply s9 | apply x8 | apply z8 | apply s7 | apply s8 | apply w4 | apply z9 | apply w5)) | ((first | apply w6 | apply z6 | apply z0 | apply p7 | apply y0 | apply z7)))
      · rename_i x y
        refine zk7 (x, y) trivial rfl ?_ ?_
        · exact fS_
        · exact hS_
      · rename_i x y
        refine zk7 (y, x) trivial rfl ?_ ?_
        · exact fS_
        · exact hS_
    rintro ⟨b7, b8⟩ -
    dsimp only
    repeat' (first | (apply v9; exact rfl; exact dF_) | (apply p9; exact rfl; exact dF_; exact rfl; exact rfl) | (apply j0; exact rfl; exact dF_) | ((first | ((apply t8 (f := 18)); exact rfl) | ((apply t9 (f := 18)); exact rfl; kernel_rfl; exact rfl; exact sJ_)); exact eV_; exact (fun w hw => zJ0 rfl w (hA.caps.keep hw (by exact aO_)) (hB.caps.keep hw (by exact aO_)))) | ((first | apply w9 | apply y8 | apply x9 | apply p6); exact rfl; exact rfl) | (apply w7; first | refine u9 (h := ?_) | refine y9 (h := ?_) | refine w8 (h := ?_) | refine q7 (h := ?_) | refine q6 (h := ?_)) | ((first | apply p4 | apply l8); exact rfl; exact rfl; exact rfl) | (apply zd7; exact rfl; exact rfl) | (apply p9; exact rfl; exact fF_; exact rfl; exact rfl) | (apply n8; infer_instance; exact rfl; exact rfl) | ((first | apply j0); exact rfl; exact gG_) | ((first | apply s9 | apply x8 | apply z8 | apply s7 | apply s8 | apply w4 | apply z9 | apply w5)) | ((first | apply w6 | apply z6 | apply z0 | apply p7 | apply y0 | apply z7)))
    apply i9 (σ := Nat) (Fs := fun k => [(98, .int .i64 k), (97, .int .i64 m.shifts.length), (96, .slice s2 m.shifts.length o2), (7, ptr b7), (8, ptr b8), (46, .int .i64 i), (45, .int .i64 p.ms.length), (44, .slice (some ⟨bn, on_, none⟩) p.ms.length g1), (5, ptr b5), (3, ptr b3)]) (Ls := fun _ => ⟨b7, Ce [.int .i64 m.id, .int .i64 m.sweeps, .int .i64 m.rate, .slice s1 m.caps.length o1, .slice s2 m.shifts.length o2] 85, true⟩ :: ⟨b8, Ce [.int .i64 m.id, .int .i64 m.sweeps, .int .i64 m.rate, .slice r1 m.caps.length t1, .slice r2 m.shifts.length t2] 85, true⟩ :: []) (I := fun k => k ≤ m.shifts.length) (μ := fun k => m.shifts.length - k) (s0 := 0)
    · exact Nat.zero_le _
    · exact fS_
    · exact hS_
    intro k hk
    have hk : k ≤ m.shifts.length := hk
    by_cases hkl : k < m.shifts.length
    · obtain ⟨z, hz⟩ : ∃ y, m.shifts[k]? = some y := ⟨_, List.getElem?_eq_getElem hkl⟩
      obtain ⟨bz, oz, ccz, ez, fzz, rfl, hkz, hpz⟩ := hop4 (by omega)
      obtain ⟨by_, oy, ccy, ey, fzy, rfl, hky, hpy⟩ := jop4 (by omega)
      have gz : ∀ jj u, ([.int .i64 z.f, .int .i64 z.t] : List Value)[jj]? = some u → ccz[oz + k * 2 + jj]? = some u := hpz.get hz
      have gy2 : ∀ jj u, ([.int .i64 z.f, .int .i64 z.t] : List Value)[jj]? = some u → ccy[oy + k * 2 + jj]? = some u := hpy.get hz
      as_aux_lemma =>
        repeat' (first | (apply v8; exact rfl; exact dT_) | (apply v9; exact rfl; exact zb4 (by simp)) | ((first | apply w9 | apply y8 | apply x9 | apply p6); exact rfl; exact rfl) | ((first | apply p4 | apply l8); exact rfl; exact rfl; exact rfl) | (apply j8; exact rfl; exact rfl; exact rfl; (constructor <;> omega)) | ((first | apply s9 | apply x8 | apply z8 | apply s7 | apply s8 | apply w4 | apply z9 | apply w5)) | ((first | apply w6 | apply z6 | apply z0 | apply p7 | apply y0 | apply z7)) | ((apply p8 (id := 13) []); kernel_rfl; kernel_rfl) | (apply za7; try simp only [zb1, List.cons_append, List.nil_append]) | ((first | apply g9 | apply m0 | apply m8); exact rfl; exact rfl) | (apply m5; first | refine k9 (h := ?_) | refine o7 (h := ?_) | refine m6 (h := ?_) | refine d6 (h := ?_) | refine f4 (h := ?_)) | (apply zq8; refine zJ7 (h := ?_)) | (apply zc4; infer_instance; infer_instance; exact rfl; exact rfl; (first | exact rfl | omega); exact rfl; (first | assumption | omega | decide)))
        refine o9 (k + 1) (show k + 1 ≤ m.shifts.length by omega) (show m.shifts.length - (k + 1) < m.shifts.length - k by omega) ?_ ?_
        · exact fS_
        · exact hS_
    obtain rfl : k = m.shifts.length := by omega
    repeat' (first | (apply v9; exact rfl; exact dF_) | ((first | apply w9 | apply y8 | apply x9 | apply p6); exact rfl; exact rfl) | ((first | apply p4 | apply l8); exact rfl; exact rfl; exact rfl) | (apply j8; exact rfl; exact rfl; exact rfl; (constructor <;> omega)) | ((first | apply s9 | apply x8 | apply z8 | apply s7 | apply s8 | apply w4 | apply z9 | apply w5)) | ((first | apply w6 | apply z6 | apply z0 | apply p7 | apply y0 | apply z7)))
    refine o9 (i + 1) (show i + 1 ≤ p.ms.length by omega) (show p.ms.length - (i + 1) < p.ms.length - i by omega) ?_ ?_
    · exact fS_
    · exact hS_
  obtain rfl : i = p.ms.length := by omega
  repeat' (first | (apply v9; exact rfl; exact dF_) | ((first | apply w9 | apply y8 | apply x9 | apply p6); exact rfl; exact rfl) | (apply w7; first | refine u9 (h := ?_) | refine y9 (h := ?_) | refine w8 (h := ?_) | refine q7 (h := ?_) | refine q6 (h := ?_)) | ((first | apply p4 | apply l8); exact rfl; exact rfl; exact rfl) | (apply n8; infer_instance; exact rfl; exact rfl) | ((first | apply s9 | apply x8 | apply z8 | apply s7 | apply s8 | apply w4 | apply z9 | apply w5)) | ((first | apply w6 | apply z6 | apply z0 | apply p7 | apply y0 | apply z7)))
  apply i9 (σ := Nat) (Fs := fun i => [(117, .int .i64 i), (116, .int .i64 p.items.length), (115, .slice f2 p.items.length g2), (5, ptr b5), (3, ptr b3)]) (Ls := fun _ => []) (I := fun i => i ≤ p.items.length) (μ := fun i => p.items.length - i) (s0 := 0)
  · exact Nat.zero_le _
  · exact fS_
  · exact hS_
  intro k hk
  have hk : k ≤ p.items.length := hk
  by_cases hkl : k < p.items.length
  · obtain ⟨z, hz⟩ : ∃ y, p.items[k]? = some y := ⟨_, List.getElem?_eq_getElem hkl⟩
    obtain ⟨bz, oz, ccz, ez, fzz, rfl, hkz, hpz⟩ := hop2 (by omega)
    obtain ⟨by_, oy, ccy, ey, fzy, rfl, hky, hpy⟩ := jop2 (by omega)
    have gz : ∀ jj u, ([.int .i64 z.id, .int .i64 z.stop, .int .i64 z.batch] : List Value)[jj]? = some u → ccz[oz + k * 3 + jj]? = some u := hpz.get hz
    have gy2 : ∀ jj u, ([.int .i64 z.id, .int .i64 z.stop, .int .i64 z.batch] : List Value)[jj]? = some u → ccy[oy + k * 3 + jj]? = some u := hpy.get hz
    as_aux_lemma =>
      repeat' (first | (apply v8; exact rfl; exact dT_) | (apply v9; exact rfl; exact zb4 (by simp)) | ((first | apply w9 | apply y8 | apply x9 | apply p6); exact rfl; exact rfl) | ((first | apply p4 | apply l8); exact rfl; exact rfl; exact rfl) | (apply j8; exact rfl; exact rfl; exact rfl; (constructor <;> omega)) | ((first | apply s9 | apply x8 | apply z8 | apply s7 | apply s8 | apply w4 | apply z9 | apply w5)) | ((first | apply w6 | apply z6 | apply z0 | apply p7 | apply y0 | apply z7)) | ((apply p8 (id := 20) []); kernel_rfl; kernel_rfl) | (apply za7; try simp only [zb1, List.cons_append, List.nil_append]) | ((first | apply g9 | apply m0 | apply m8); exact rfl; exact rfl) | (apply m5; first | refine k9 (h := ?_) | refine o7 (h := ?_) | refine m6 (h := ?_) | refine d6 (h := ?_) | refine f4 (h := ?_)) | (apply zq8; refine zJ7 (h := ?_)) | (apply zc4; infer_instance; infer_instance; exact rfl; exact rfl; (first | exact rfl | omega); exact rfl; (first | assumption | omega | decide)))
      refine o9 (k + 1) (show k + 1 ≤ p.items.length by omega) (show p.items.length - (k + 1) < p.items.length - k by omega) ?_ ?_
      · exact fS_
      · exact hS_
  obtain rfl : k = p.items.length := by omega
  repeat' (first | (apply v9; exact rfl; exact dF_) | ((first | apply w9 | apply y8 | apply x9 | apply p6); exact rfl; exact rfl) | (apply w7; first | refine u9 (h := ?_) | refine y9 (h := ?_) | refine w8 (h := ?_) | refine q7 (h := ?_) | refine q6 (h := ?_)) | ((first | apply p4 | apply l8); exact rfl; exact rfl; exact rfl) | (apply n8; infer_instance; exact rfl; exact rfl) | ((first | apply s9 | apply x8 | apply z8 | apply s7 | apply s8 | apply w4 | apply z9 | apply w5)) | ((first | apply w6 | apply z6 | apply z0 | apply p7 | apply y0 | apply z7)))
  apply i9 (σ := Nat) (Fs := fun i => [(135, .int .i64 i), (134, .int .i64 p.passes.length), (133, .slice f3 p.passes.length g3), (5, ptr b5), (3, ptr b3)]) (Ls := fun _ => []) (I := fun i => i ≤ p.passes.length) (μ := fun i => p.passes.length - i) (s0 := 0)
  · exact Nat.zero_le _
  · exact fS_
  · exact hS_
  intro i hi
  have hi : i ≤ p.passes.length := hi
  by_cases hlt : i < p.passes.length
  · obtain ⟨y, hy⟩ : ∃ y, p.passes[i]? = some y := ⟨_, List.getElem?_eq_getElem hlt⟩
    obtain ⟨da, hda⟩ : ∃ z, ys[i]? = some z := ⟨_, List.getElem?_eq_getElem (by omega)⟩
    obtain ⟨db, hdb⟩ : ∃ z, zs[i]? = some z := ⟨_, List.getElem?_eq_getElem (by omega)⟩
    have hA := hpass i da y hda hy
    have hB := jpass i db y hdb hy
    obtain ⟨s1, o1, s2, o2, s3, o3, rfl⟩ := hA.eqs
    obtain ⟨r1, t1, r2, t2, r3, t3, rfl⟩ := hB.eqs
    have hsa := hA.src
    have hsb := hB.src
    have hta := hA.table
    have htb := hB.table
    dsimp only [sdV] at hsa hsb hta htb
    obtain ⟨_, _, e4, hc4, hop4⟩ := hsa.open
    cases e4
    obtain ⟨_, _, e4, jc4, jop4⟩ := hsb.open
    cases e4
    obtain ⟨_, _, e4, hc5, hop5⟩ := hta.open
    cases e4
    obtain ⟨_, _, e4, jc5, jop5⟩ := htb.open
    cases e4
    obtain ⟨bp, op, ccp, ep, fzp, rfl, hkp, hpp⟩ := hop3 (by omega)
    obtain ⟨bn, on_, ccn, en, fzn, rfl, hkn, hpn⟩ := jop3 (by omega)
    have gy : ∀ jj u, ([.int .i64 y.id, .int .i64 y.mach, .int .i64 y.rel, .slice s1 y.src.length o1, .slice s2 y.table.length o2, .slice s3 y.unread.length o3] : List Value)[jj]? = some u → ccp[op + i * 6 + jj]? = some u := hpp.get hda
    have gn : ∀ jj u, ([.int .i64 y.id, .int .i64 y.mach, .int .i64 y.rel, .slice r1 y.src.length t1, .slice r2 y.table.length t2, .slice r3 y.unread.length t3] : List Value)[jj]? = some u → ccn[on_ + i * 6 + jj]? = some u := hpn.get hdb
    repeat' (first | (apply v8; exact rfl; exact dT_) | ((first | apply w9 | apply y8 | apply x9 | apply p6); exact rfl; exact rfl) | ((first | apply p4 | apply l8); exact rfl; exact rfl; exact rfl) | ((first | apply s9 | apply x8 | apply z8 | apply s7 | apply s8 | apply w4 | apply z9 | apply w5)) | ((first | apply w6 | apply z6 | apply z0 | apply p7 | apply y0 | apply z7)))
    apply zF5 (σ := Nat × Nat) (Ds := fun _ => []) (Fs := fun t => [(12, ptr t.1), (13, ptr t.2), (11, .int .i64 i), (135, .int .i64 i), (134, .int .i64 p.passes.length), (133, .slice (some ⟨bn, on_, none⟩) p.passes.length g3), (5, ptr b5), (3, ptr b3)]) (Ls := fun t => ⟨t.1, Ce [.int .i64 y.id, .int .i64 y.mach, .int .i64 y.rel, .slice s1 y.src.length o1, .slice s2 y.table.length o2, .slice s3 y.unread.length o3] 93, true⟩ :: ⟨t.2, Ce [.int .i64 y.id, .int .i64 y.mach, .int .i64 y.rel, .slice r1 y.src.length t1, .slice r2 y.table.length t2, .slice r3 y.unread.length t3] 93, true⟩ :: []) (I := fun _ => True)
    · repeat' (first | ((apply zp3 (id := 26) ([]) 14); kernel_rfl; kernel_rfl; exact hS_) | ((apply l9 (fq := 13) (m := 0) (k := 0) (m' := 1)); kernel_rfl; exact rfl; kernel_rfl) | ((apply l9 (fq := 12) (m := 1) (k := 1) (m' := 3)); kernel_rfl; exact rfl; kernel_rfl) | ((apply l9 (fq := 11) (m := 3) (k := 2) (m' := 7)); kernel_rfl; exact rfl; kernel_rfl) | ((apply l9 (fq := 10) (m := 7) (k := 3) (m' := 15)); kernel_rfl; exact rfl; kernel_rfl) | ((apply l9 (fq := 9) (m := 15) (k := 4) (m' := 31)); kernel_rfl; exact rfl; kernel_rfl) | ((apply l9 (fq := 8) (m := 31) (k := 5) (m' := 63)); kernel_rfl; exact rfl; kernel_rfl) | ((apply l9 (fq := 7) (m := 63) (k := 6) (m' := 127)); kernel_rfl; exact rfl; kernel_rfl) | ((apply l9 (fq := 6) (m := 127) (k := 7) (m' := 255)); kernel_rfl; exact rfl; kernel_rfl) | ((apply l9 (fq := 5) (m := 255) (k := 8) (m' := 511)); kernel_rfl; exact rfl; kernel_rfl) | ((apply l9 (fq := 4) (m := 511) (k := 9) (m' := 1023)); kernel_rfl; exact rfl; kernel_rfl) | ((apply zi8 (fq := 3) (m := 1023) (k1 := 10) (m1 := 2047) (k2 := 11) (m2 := 3071)); kernel_rfl; exact rfl; kernel_rfl; exact rfl; kernel_rfl) | ((apply zb7 (fq := 2) (m := 3071) (k1 := 10) (m1 := 4095)); kernel_rfl; exact rfl; kernel_rfl) | ((apply zb7 (fq := 1) (m := 4095) (k1 := 12) (m1 := 8191)); kernel_rfl; exact rfl; kernel_rfl) | ((apply zb7 (fq := 0) (m := 8191) (k1 := 13) (m1 := 16383)); kernel_rfl; exact rfl; kernel_rfl) | ((apply zb7 (fq := 2) (m := 2047) (k1 := 11) (m1 := 4095)); kernel_rfl; exact rfl; kernel_rfl) | (apply zF2; kernel_rfl) | (apply yi0; exact hS_) | ((first | apply zF3 | apply zt1); exact rfl; exact rfl) | (apply zY2; infer_instance; exact rfl; exact kN_; exact nT_; exact rfl) | (apply zU9; infer_instance; infer_instance; exact rfl; exact rfl; (first | exact rfl | omega); exact rfl; (first | assumption | omega | decide)) | (apply yG7; infer_instance; infer_instance; exact rfl; exact kN_; assumption; exact rfl; exact rfl) | (apply o8; exact rfl; intro _) | (apply q8; first | refine q9 (h := ?_) | refine p3 (h := ?_)) | ((first | apply s9 | apply x8 | apply z8 | apply s7 | apply s8 | apply w4 | apply z9 | apply w5)) | ((first | apply w6 | apply z6 | apply z0 | apply p7 | apply y0 | apply z7)))
      · rename_i x y
        refine zk7 (x, y) trivial rfl ?_ ?_
        · exact fS_
        · exact hS_
      · rename_i x y
        refine zk7 (y, x) trivial rfl ?_ ?_
        · exact fS_
        · exact hS_
    rintro ⟨b7, b8⟩ -
    dsimp only
    repeat' (first | (apply v9; exact rfl; exact dF_) | (apply p9; exact rfl; exact dF_; exact rfl; exact rfl) | (apply j0; exact rfl; exact dF_) | ((first | ((apply t8 (f := 18)); exact rfl) | ((apply t9 (f := 18)); exact rfl; kernel_rfl; exact rfl; exact sJ_)); exact eV_; exact (fun w hw => zJ0 rfl w (hA.unread.keep hw (by exact aO_)) (hB.unread.keep hw (by exact aO_)))) | ((first | apply w9 | apply y8 | apply x9 | apply p6); exact rfl; exact rfl) | (apply w7; first | refine u9 (h := ?_) | refine y9 (h := ?_) | refine w8 (h := ?_) | refine q7 (h := ?_) | refine q6 (h := ?_)) | ((first | apply p4 | apply l8); exact rfl; exact rfl; exact rfl) | (apply zd7; exact rfl; exact rfl) | (apply p9; exact rfl; exact fF_; exact rfl; exact rfl) | (apply n8; infer_instance; exact rfl; exact rfl) | ((first | apply j0); exact rfl; exact gG_) | ((first | apply s9 | apply x8 | apply z8 | apply s7 | apply s8 | apply w4 | apply z9 | apply w5)) | ((first | apply w6 | apply z6 | apply z0 | apply p7 | apply y0 | apply z7)))
    apply i9 (σ := Nat) (Fs := fun k => [(196, .int .i64 k), (195, .int .i64 y.src.length), (194, .slice s1 y.src.length o1), (12, ptr b7), (13, ptr b8), (135, .int .i64 i), (134, .int .i64 p.passes.length), (133, .slice (some ⟨bn, on_, none⟩) p.passes.length g3), (5, ptr b5), (3, ptr b3)]) (Ls := fun _ => ⟨b7, Ce [.int .i64 y.id, .int .i64 y.mach, .int .i64 y.rel, .slice s1 y.src.length o1, .slice s2 y.table.length o2, .slice s3 y.unread.length o3] 93, true⟩ :: ⟨b8, Ce [.int .i64 y.id, .int .i64 y.mach, .int .i64 y.rel, .slice r1 y.src.length t1, .slice r2 y.table.length t2, .slice r3 y.unread.length t3] 93, true⟩ :: []) (I := fun k => k ≤ y.src.length) (μ := fun k => y.src.length - k) (s0 := 0)
    · exact Nat.zero_le _
    · exact fS_
    · exact hS_
    intro k hk
    have hk : k ≤ y.src.length := hk
    by_cases hkl : k < y.src.length
    · obtain ⟨z, hz⟩ : ∃ z, y.src[k]? = some z := ⟨_, List.getElem?_eq_getElem hkl⟩
      obtain ⟨bz, oz, ccz, ez, fzz, rfl, hkz, hpz⟩ := hop4 (by omega)
      obtain ⟨by_, oy, ccy, ey, fzy, rfl, hky, hpy⟩ := jop4 (by omega)
      have gz : ∀ jj u, ([.int .i64 z.1, .int .i64 z.2] : List Value)[jj]? = some u → ccz[oz + k * 2 + jj]? = some u := hpz.get hz
      have gy2 : ∀ jj u, ([.int .i64 z.1, .int .i64 z.2] : List Value)[jj]? = some u → ccy[oy + k * 2 + jj]? = some u := hpy.get hz
      as_aux_lemma =>
        repeat' (first | (apply v8; exact rfl; exact dT_) | (apply v9; exact rfl; exact zb4 (by simp)) | ((first | apply w9 | apply y8 | apply x9 | apply p6); exact rfl; exact rfl) | ((first | apply p4 | apply l8); exact rfl; exact rfl; exact rfl) | (apply j8; exact rfl; exact rfl; exact rfl; (constructor <;> omega)) | ((first | apply s9 | apply x8 | apply z8 | apply s7 | apply s8 | apply w4 | apply z9 | apply w5)) | ((first | apply w6 | apply z6 | apply z0 | apply p7 | apply y0 | apply z7)) | ((apply p8 (id := 32) []); kernel_rfl; kernel_rfl) | (apply za7; try simp only [zb1, List.cons_append, List.nil_append]) | ((first | apply g9 | apply m0 | apply m8); exact rfl; exact rfl) | (apply m5; first | refine k9 (h := ?_) | refine o7 (h := ?_) | refine m6 (h := ?_) | refine d6 (h := ?_) | refine f4 (h := ?_)) | (apply zq8; refine zJ7 (h := ?_)) | (apply zc4; infer_instance; infer_instance; exact rfl; exact rfl; (first | exact rfl | omega); exact rfl; (first | assumption | omega | decide)))
        refine o9 (k + 1) (show k + 1 ≤ y.src.length by omega) (show y.src.length - (k + 1) < y.src.length - k by omega) ?_ ?_
        · exact fS_
        · exact hS_
    obtain rfl : k = y.src.length := by omega
    repeat' (first | (apply v9; exact rfl; exact dF_) | ((first | apply w9 | apply y8 | apply x9 | apply p6); exact rfl; exact rfl) | (apply w7; first | refine u9 (h := ?_) | refine y9 (h := ?_) | refine w8 (h := ?_) | refine q7 (h := ?_) | refine q6 (h := ?_)) | ((first | apply p4 | apply l8); exact rfl; exact rfl; exact rfl) | (apply n8; infer_instance; exact rfl; exact rfl) | ((first | apply s9 | apply x8 | apply z8 | apply s7 | apply s8 | apply w4 | apply z9 | apply w5)) | ((first | apply w6 | apply z6 | apply z0 | apply p7 | apply y0 | apply z7)))
    apply i9 (σ := Nat) (Fs := fun k => [(214, .int .i64 k), (213, .int .i64 y.table.length), (212, .slice s2 y.table.length o2), (12, ptr b7), (13, ptr b8), (135, .int .i64 i), (134, .int .i64 p.passes.length), (133, .slice (some ⟨bn, on_, none⟩) p.passes.length g3), (5, ptr b5), (3, ptr b3)]) (Ls := fun _ => ⟨b7, Ce [.int .i64 y.id, .int .i64 y.mach, .int .i64 y.rel, .slice s1 y.src.length o1, .slice s2 y.table.length o2, .slice s3 y.unread.length o3] 93, true⟩ :: ⟨b8, Ce [.int .i64 y.id, .int .i64 y.mach, .int .i64 y.rel, .slice r1 y.src.length t1, .slice r2 y.table.length t2, .slice r3 y.unread.length t3] 93, true⟩ :: []) (I := fun k => k ≤ y.table.length) (μ := fun k => y.table.length - k) (s0 := 0)
    · exact Nat.zero_le _
    · exact fS_
    · exact hS_
    intro k hk
    have hk : k ≤ y.table.length := hk
    by_cases hkl : k < y.table.length
    · obtain ⟨z, hz⟩ : ∃ z, y.table[k]? = some z := ⟨_, List.getElem?_eq_getElem hkl⟩
      obtain ⟨bz, oz, ccz, ez, fzz, rfl, hkz, hpz⟩ := hop5 (by omega)
      obtain ⟨by_, oy, ccy, ey, fzy, rfl, hky, hpy⟩ := jop5 (by omega)
      have gz : ∀ jj u, ([.int .i64 z.stop, .int .i64 z.st] : List Value)[jj]? = some u → ccz[oz + k * 2 + jj]? = some u := hpz.get hz
      have gy2 : ∀ jj u, ([.int .i64 z.stop, .int .i64 z.st] : List Value)[jj]? = some u → ccy[oy + k * 2 + jj]? = some u := hpy.get hz
      as_aux_lemma =>
        repeat' (first | (apply v8; exact rfl; exact dT_) | (apply v9; exact rfl; exact zb4 (by simp)) | ((first | apply w9 | apply y8 | apply x9 | apply p6); exact rfl; exact rfl) | ((first | apply p4 | apply l8); exact rfl; exact rfl; exact rfl) | (apply j8; exact rfl; exact rfl; exact rfl; (constructor <;> omega)) | ((first | apply s9 | apply x8 | apply z8 | apply s7 | apply s8 | apply w4 | apply z9 | apply w5)) | ((first | apply w6 | apply z6 | apply z0 | apply p7 | apply y0 | apply z7)) | ((apply p8 (id := 38) []); kernel_rfl; kernel_rfl) | (apply za7; try simp only [zb1, List.cons_append, List.nil_append]) | ((first | apply g9 | apply m0 | apply m8); exact rfl; exact rfl) | (apply m5; first | refine k9 (h := ?_) | refine o7 (h := ?_) | refine m6 (h := ?_) | refine d6 (h := ?_) | refine f4 (h := ?_)) | (apply zq8; refine zJ7 (h := ?_)) | (apply zc4; infer_instance; infer_instance; exact rfl; exact rfl; (first | exact rfl | omega); exact rfl; (first | assumption | omega | decide)))
        refine o9 (k + 1) (show k + 1 ≤ y.table.length by omega) (show y.table.length - (k + 1) < y.table.length - k by omega) ?_ ?_
        · exact fS_
        · exact hS_
    obtain rfl : k = y.table.length := by omega
    repeat' (first | (apply v9; exact rfl; exact dF_) | ((first | apply w9 | apply y8 | apply x9 | apply p6); exact rfl; exact rfl) | ((first | apply p4 | apply l8); exact rfl; exact rfl; exact rfl) | (apply j8; exact rfl; exact rfl; exact rfl; (constructor <;> omega)) | ((first | apply s9 | apply x8 | apply z8 | apply s7 | apply s8 | apply w4 | apply z9 | apply w5)) | ((first | apply w6 | apply z6 | apply z0 | apply p7 | apply y0 | apply z7)))
    refine o9 (i + 1) (show i + 1 ≤ p.passes.length by omega) (show p.passes.length - (i + 1) < p.passes.length - i by omega) ?_ ?_
    · exact fS_
    · exact hS_
  obtain rfl : i = p.passes.length := by omega
  repeat' (first | (apply v9; exact rfl; exact dF_) | ((first | apply w9 | apply y8 | apply x9 | apply p6); exact rfl; exact rfl) | ((first | apply p4 | apply l8); exact rfl; exact rfl; exact rfl) | ((first | apply s9 | apply x8 | apply z8 | apply s7 | apply s8 | apply w4 | apply z9 | apply w5)) | ((first | apply w6 | apply z6 | apply z0 | apply p7 | apply y0 | apply z7)))
  apply o0; apply za8 Try.results10; exact rV_; intro w' hw
  exact ⟨rfl, hbel1.trans ((hw.below (show AO _ from by exact aO_)).mono hbel1.size)⟩
end Go.Proofs.Ytdahckhlfldkkaa
namespace Go.Sx.Plt
open Go Go.Sx
theorem yg5 {p : i8} (h : (zd2 p).2 = 0) : zd2 p = (0, 0) := by
  by_cases h0 : 20 < p.ms.length ∨ 2000 < p.items.length ∨ 60 < p.passes.length
  · unfold zd2 at h
    rw [if_pos h0] at h
    simp at h
  · unfold zd2 at h ⊢
    rw [if_neg h0] at h ⊢
    repeat' split at h
    all_goals first | rfl | simp_all
theorem yC7 (p : i8) (x t : Int) : 0 ≤ (zk6 p x t).1.1 ∧ (zk6 p x t).1.1 ≤ 255 := by
  unfold zk6
  split
  · decide
  split
  · decide
  split
  · decide
  split
  · split
    · unfold zq0
      split
      · show (0 : Int) ≤ 2 ∧ (2 : Int) ≤ 255; decide
      split
      · show (0 : Int) ≤ 3 ∧ (3 : Int) ≤ 255; decide
      · show (0 : Int) ≤ 4 ∧ (4 : Int) ≤ 255; decide
    · decide
  · show (0 : Int) ≤ 1 ∧ (1 : Int) ≤ 255; decide
end Go.Sx.Plt
namespace Go.Proofs.Ytdahckhlfldkkaa
open Go Go.Sx Go.RowKit
attribute [local irreducible] WL WC WQ WR WB WF QB St Exit.then Exit.inBlock Exit.noGoto bodyPost roundPost zc9 YR RG BM Calls B zd4 zf2
theorem yi2 (p : Plt.i8) (x t : Int) : ∃ kd ps nu k : Int, (0 ≤ kd ∧ kd ≤ 255) ∧
    (∀ (w : World) (q : PlD), PlV w q p → Calls Try.prog 9 #[plV q, .int .i64 x, .int .i64 t] w fun e w' => e = .returned (.tuple #[.agg #[.int .u8 kd, .int .i64 ps, .int .i64 nu], .int .i64 k]) ∧ Below w.heap.size w w') ∧
    ∀ (w : World) (q : PlD), PlV w q p → Calls Try.prog 8 #[plV q, .int .i64 x, .int .i64 t] w fun e w' => e = .returned (.tuple #[.int .i64 kd, .int .i64 ps, .int .i64 nu, .int .i64 k]) ∧ Below w.heap.size w w' := by
  obtain ⟨⟨a, k⟩, hvf⟩ : ∃ z, Plt.zd2 p = z := ⟨_, rfl⟩
  by_cases hk : k = 0
  · subst hk
    have hvf : Plt.zd2 p = (0, 0) := Plt.yg5 (by rw [hvf])
    have hb := Plt.yC7 p x t
    obtain ⟨⟨⟨kd, ps, nu⟩, k⟩, he⟩ : ∃ z, Plt.zk6 p x t = z := ⟨_, rfl⟩
    rw [he] at hb
    exact ⟨kd, ps, nu, k, hb, fun w q h => zN4 (Plt.zG9 hvf) he w h, fun w q h => ya1 (Plt.yg8 hvf) hvf he w h⟩
  · exact ⟨0, 0, 0, k, by decide, fun w q h => yh0 hvf hk w h, fun w q h => yk9 hvf hk w h⟩
set_option maxHeartbeats 4000000 in
theorem zL2 {q : PlD} {p : Plt.i8} {x t : Int} (hl : Plt.Lim p) (w : World) (hV : PlV w q p) : Calls Try.prog 3 #[plV q, .int .i64 x, .int .i64 t] w fun e w' => e = .returned (.bool true) ∧ Below w.heap.size w w' := by
  obtain ⟨kd, ps, nu, k, hkd, hPW, hXW⟩ := yi2 p x t
  have hwr := zs7 (z := kd) (by omega) (by omega)
  obtain ⟨u1, x1, u2, x2, u3, x3, dds, yys, rfl⟩ := hV.eqs
  dsimp only [sdV, plV] at hPW hXW ⊢
  refine zd5 Try.func3 rfl Try.ntmps3 rfl (Rep.start w) ?_
  repeat' (first | (apply n9; exact rfl; exact dT_; exact rfl; exact rfl) | (apply j0; exact rfl; exact dT_) | ((first | ((apply d7 (f := 5)); exact rfl) | ((apply d8 (f := 5)); exact rfl; exact rfl; exact sJ_)); exact eV_; exact (fun w hw => yq2 hl w (hV.keep hw (by exact aO_))); rintro v N ⟨(_ | _), rfl, rfl, hb⟩ <;> (try simp only [List.cons_append, List.nil_append])) | ((first | ((apply t8 (f := 6)); exact rfl) | ((apply t9 (f := 6)); exact rfl; kernel_rfl; exact rfl; exact sJ_)); exact eV_; exact (fun w _ => yb7 w)) | ((first | ((apply d7 (f := 7)); exact rfl) | ((apply d8 (f := 7)); exact rfl; exact rfl; exact sJ_)); exact eV_; exact (fun w hw => zH7 (hb rfl) w (hV.keep hw (by exact aO_))); rintro v N ⟨a1, c1, a2, c2, a3, c3, ds, ys, rfl, hQ, oQ⟩ <;> (try simp only [List.cons_append, List.nil_append, List.append_assoc])) | ((first | ((apply t8 (f := 8)); exact rfl) | ((apply t9 (f := 8)); exact rfl; kernel_rfl; exact rfl; exact sJ_)); exact eV_; exact (fun w hw => hXW w _ (hQ _ _ _ _ (by exact rL_) hw))) | ((first | ((apply t8 (f := 9)); exact rfl) | ((apply t9 (f := 9)); exact rfl; kernel_rfl; exact rfl; exact sJ_)); exact eV_; exact (fun w hw => hPW w _ (hV.keep hw (by exact aO_)))) | ((first | ((apply t8 (f := 10)); exact rfl) | ((apply t9 (f := 10)); exact rfl; kernel_rfl; exact rfl; exact sJ_)); exact eV_; exact (fun w hw => yj2 (hb rfl) w (hV.keep hw (by exact aO_)) (hQ _ _ _ _ (by exact rL_) hw))) | ((first | apply w9 | apply y8 | apply x9 | apply p6 | apply yK5); exact rfl; exact rfl) | (apply w7; first | refine u9 (h := ?_) | refine y9 (h := ?_) | refine w8 (h := ?_) | refine q7 (h := ?_) | refine q6 (h := ?_)) | ((first | apply m9 | apply p5); exact rfl; exact rfl; exact rfl) | (apply zd7; exact rfl; exact rfl) | (apply n9; exact rfl; exact tT_; exact rfl; exact rfl) | (apply o8; exact rfl; intro _) | (apply zc3; exact rfl; exact rfl; exact rfl; intro _) | (apply q8; first | refine q9 (h := ?_) | refine p3 (h := ?_)) | ((first | apply j0); exact rfl; exact gG_) | ((first | apply s9 | apply x8 | apply z8 | apply s7 | apply s8 | apply w4 | apply z9 | apply w5)) | (apply v8; exact rfl; exact tT_) | (apply v9; exact rfl; exact fF_) | ((first | apply w6 | apply z6 | apply z0 | apply p7 | apply y0 | apply z7)))
  all_goals
    apply o0; apply za8 Try.results3; exact rV_; intro w' hw
    exact ⟨rfl, hw.below (show AO _ from by exact aO_)⟩
end Go.Proofs.Ytdahckhlfldkkaa
namespace Go.Sx
open Go Go.RowKit
def Rz {H : Type} (enc : TypeId × Value → H) (P : Program) (w : World) (t : TypeId) (cs : List Value) : Prop := ∃ fuel d ps, DataW.trod enc P w 0 (fun _ => true) true fuel t cs = some (d, ps) ∧ ∀ n ∈ d.weights P t, n ≤ reachBytes
section
variable {H : Type} {enc : TypeId × Value → H} {P : Program} {w : World} {t : TypeId} {cs : List Value}
theorem Rz.of {v : Value} {d : DataW H} {ps : List MemPlace} (h : DataW.Trod enc P w 0 (fun _ => true) true t v d ps) (hs : ∀ n ∈ d.weights P t, n ≤ reachBytes) : Rz enc P w t v.cells.toList := h.elim fun f h => ⟨f, d, ps, h, hs⟩
theorem Rz.rd (h : Rz enc P w t cs) : Rd enc P w t cs := by
  obtain ⟨f, d, ps, h, _⟩ := h
  exact ⟨f, _, h⟩
theorem Rz.struct {fs : Array Field} (ht : P.underlying t = some (.struct fs)) (h : Rz enc P w t cs) : cs.length = P.cellsOf t ∧ ∀ (i : Nat) (f : Field), fs[i]? = some f → Rz enc P w f.type ((cs.drop f.offset).take (P.cellsOf f.type)) := by
  obtain ⟨f, d, ps, h, hz⟩ := h
  obtain ⟨xs, n, _, hx, hl, hlen, hf⟩ := DataW.trod_struct ht h
  have hd : d = .agg (xs.map (·.1)) := congrArg Prod.fst hx
  subst hd
  refine ⟨hl, fun i f hi => ?_⟩
  have hlt : i < xs.length := by rw [hlen]; exact (Array.getElem?_eq_some_iff.1 hi).1
  refine ⟨n, (xs[i]).1, (xs[i]).2, by rw [hf i f hi]; exact List.getElem?_eq_getElem hlt, fun m hm => hz m ?_⟩
  rw [DataW.weights, ht]
  refine DataW.weights_mem_each (j := i) (t := f.type) (d := (xs[i]).1) ?_ ?_ m hm
  · rw [List.getElem?_map, Array.getElem?_toList, hi]; rfl
  · rw [List.getElem?_map, List.getElem?_eq_getElem hlt]; rfl
theorem zs0 {e : TypeId} {d : DataW H} : ∀ {l : List (DataW H)}, d ∈ l → ∀ n ∈ d.weights P e, n ∈ DataW.weightsAll P e l
  | x :: l, h, n, hn => by
    rw [DataW.weightsAll]
    rcases List.mem_cons.1 h with rfl | h
    · exact List.mem_append_left _ hn
    · exact List.mem_append_right _ (zs0 h n hn)
theorem Rz.slice {e : TypeId} {k by' : Nat} (ht : P.underlying t = some (.slice e)) (hk : P.cellsOf e = k) (hby : P.bytesOf e = by') (h : Rz enc P w t cs) : cs = [.slice none 0 0] ∨
    ∃ (a : Addr) (len cap : Nat), cs = [.slice (some a) len cap] ∧ len ≤ cap ∧ cap ≤ maxLen ∧ (∀ i, i < cap → ∃ l, w.cells? 0 (a.add (i * k)) k = some l ∧ Rz enc P w e l) ∧ cap * by' ≤ 140737488351232 := by
  subst hk hby
  obtain ⟨f, d, ps, h, hz⟩ := h
  rcases DataW.trod_slice ht h with h0 | ⟨a, len, cap, elems, rest, n, _, h1, hx, _, h2, h3, h4, h5, h6, _⟩
  · exact .inl h0.1
  obtain ⟨g1, g2⟩ := h6 rfl
  have hd : d = .slice (elems.map (·.1)) (rest.map (·.1)) := congrArg Prod.fst hx
  subst hd
  rw [DataW.weights, ht] at hz
  have hel : ∀ x ∈ elems ++ rest, ∀ m ∈ x.1.weights P e, m ≤ reachBytes := fun x hx m hm => hz m (List.mem_cons_of_mem _ (by
    rcases List.mem_append.1 hx with hx | hx
    · exact List.mem_append_left _ (zs0 (List.mem_map_of_mem hx) m hm)
    · exact List.mem_append_right _ (zs0 (List.mem_map_of_mem hx) m hm)))
  have hb0 := hz _ (List.mem_cons_self ..)
  rw [List.length_map, List.length_map, h4, g1, show len + (cap - len) = cap by omega] at hb0
  refine .inr ⟨a, len, cap, h1, h2, h3, fun i hi => ?_, hb0⟩
  have hb : ∃ y, y ∈ elems ++ rest ∧ (w.cells? 0 (a.add (i * P.cellsOf e)) (P.cellsOf e)).bind (DataW.trod enc P w 0 (fun _ => true) true n e) = some y := by
    by_cases hl : i < len
    · exact ⟨elems[i]'(by omega), List.mem_append_left _ (List.getElem_mem _), by rw [h5 i hl]; exact List.getElem?_eq_getElem _⟩
    · have := g2 (i - len) (by omega)
      rw [show len + (i - len) = i from by omega] at this
      exact ⟨rest[i - len]'(by omega), List.mem_append_right _ (List.getElem_mem _), by rw [this]; exact List.getElem?_eq_getElem _⟩
  obtain ⟨y, hm, hy⟩ := hb
  obtain ⟨l, hl1, hl2⟩ := Option.bind_eq_some_iff.1 hy
  exact ⟨l, hl1, n, y.1, y.2, hl2, hel y hm⟩
theorem zu3 {α : Type} {ea : α → List Value} {good : α → Prop} {e : TypeId} {k by' : Nat} (ht : P.underlying t = some (.slice e)) (hk : P.cellsOf e = k) (hk0 : 0 < k) (hby : P.bytesOf e = by') (henc : ∀ x, (ea x).length = k)
    (dec : ∀ cs, Rz enc P w e cs → ∃ x, cs = ea x ∧ good x) (h : Rz enc P w t cs) : ∃ v xs, cs = [v] ∧ SV w k ea v xs ∧ (∀ x ∈ xs, good x) ∧ xs.length * by' ≤ 140737488351232 := by
  rcases h.slice ht hk hby with rfl | ⟨a, len, cap, rfl, hlc, hcm, hel, hbs⟩
  · exact ⟨_, [], rfl, SV.nil, by simp, by simp⟩
  have each : ∀ i, i < cap → ∃ x, good x ∧ ∀ j u, (ea x)[j]? = some u → w.cell? ((a.add (i * k)).add j) = some u := fun i hi => by
    obtain ⟨l, h1, h2⟩ := hel i hi
    obtain ⟨_, h3⟩ := yp5 h1
    obtain ⟨x, rfl, hg⟩ := dec l h2
    exact ⟨x, hg, h3⟩
  have all : ∀ n, n ≤ cap → ∃ xs : List α, xs.length = n ∧ (∀ x ∈ xs, good x) ∧ ∀ i x, xs[i]? = some x → ∀ j u, (ea x)[j]? = some u → w.cell? ((a.add (i * k)).add j) = some u := by
    intro n
    induction n with
    | zero => exact fun _ => ⟨[], rfl, by simp, by simp⟩
    | succ n ih =>
      intro hn
      obtain ⟨xs, h1, h2, h3⟩ := ih (by omega)
      obtain ⟨x, hg, hx⟩ := each n (by omega)
      refine ⟨xs ++ [x], by simp [h1], fun y hy => ?_, fun i y hy => ?_⟩
      · rcases List.mem_append.1 hy with hy | hy
        · exact h2 y hy
        · simp at hy; subst hy; exact hg
      · by_cases hi : i < xs.length
        · rw [List.getElem?_append_left hi] at hy; exact h3 i y hy
        · rw [List.getElem?_append_right (by omega)] at hy
          have hi' : i = n := by
            have := (List.getElem?_eq_some_iff.1 hy).1
            simp at this; omega
          subst hi'
          rw [h1, Nat.sub_self] at hy
          simp at hy; subst hy; exact hx
  obtain ⟨xs, h1, h2, h3⟩ := all len hlc
  subst h1
  refine ⟨_, xs, rfl, ⟨some a, cap, rfl, ⟨hlc, ?_⟩, ?_⟩, h2, Nat.le_trans (Nat.mul_le_mul_right _ hlc) hbs⟩
  · have : maxLen = 9223372036854775807 := by decide
    omega
  · by_cases hx : xs = []
    · exact .inl hx
    · obtain ⟨x0, hx0⟩ : ∃ x, xs[0]? = some x := ⟨_, List.getElem?_eq_getElem (List.length_pos_iff.2 hx)⟩
      obtain ⟨u0, hu0⟩ : ∃ u, (ea x0)[0]? = some u := ⟨_, List.getElem?_eq_getElem (by rw [henc]; exact hk0)⟩
      have hc := h3 0 x0 hx0 0 u0 hu0
      obtain ⟨b, off, spot⟩ := a
      have hspot : spot = none ∧ ∃ c e' fz, w.heap[b]? = some (.cells c e' fz) := by
        simp only [World.cell?, Nat.zero_mul] at hc
        have hb : ((Addr.add ⟨b, off, spot⟩ 0).add 0).block = b := by unfold Addr.add; split <;> (try split) <;> simp_all
        have hs : ((Addr.add ⟨b, off, spot⟩ 0).add 0).spot = spot := by unfold Addr.add; split <;> (try split) <;> simp_all
        rw [hb, hs] at hc
        split at hc
        · rename_i c e' fz heq
          split at hc
          · cases hc
          · rename_i hsp
            exact ⟨by cases spot <;> simp_all, c, e', fz, heq⟩
        · cases hc
      obtain ⟨rfl, c, e', fz, hb⟩ := hspot
      refine .inr ⟨b, off, c, e', fz, rfl, hb, fun i x hx j u hj => ?_⟩
      have := h3 i x hx j u hj
      rw [zf6, zf6] at this
      simpa [World.cell?, hb] using this
end
theorem yw0 {α : Type} {l : List α} (h : l.length = 3) : ∃ a b c, l = [a, b, c] := by
  match l, h with
  | [a, b, c], _ => exact ⟨a, b, c, rfl⟩
theorem yj4 {α : Type} {l : List α} (h : l.length = 2) : ∃ a b, l = [a, b] := by
  match l, h with
  | [a, b], _ => exact ⟨a, b, rfl⟩
theorem yJ9 {α : Type} {l : List α} (h : l.length = 5) : ∃ a b c d e, l = [a, b, c, d, e] := by
  match l, h with
  | [a, b, c, d, e], _ => exact ⟨a, b, c, d, e, rfl⟩
theorem yK0 {α : Type} {l : List α} (h : l.length = 6) : ∃ a b c d e f, l = [a, b, c, d, e, f] := by
  match l, h with
  | [a, b, c, d, e, f], _ => exact ⟨a, b, c, d, e, f, rfl⟩
theorem zO8 {α β : Type} {R : α → β → Prop} : ∀ {xs : List α}, (∀ x ∈ xs, ∃ y, R x y) → ∃ ys : List β, ys.length = xs.length ∧ ∀ (i : Nat) (a : α) (b : β), xs[i]? = some a → ys[i]? = some b → R a b
  | [], _ => ⟨[], rfl, by simp⟩
  | x :: xs, h => by
    obtain ⟨y, hy⟩ := h x (by simp)
    obtain ⟨ys, hl, hr⟩ := zO8 (xs := xs) (fun z hz => h z (List.mem_cons_of_mem _ hz))
    refine ⟨y :: ys, by simp [hl], fun i a b ha hb => ?_⟩
    match i with
    | 0 => cases ha; cases hb; exact hy
    | i + 1 => exact hr i a b ha hb
end Go.Sx
namespace Go.Proofs.Ytdahckhlfldkkaa
open Go Go.ChangeShapes Go.WideShapes Go.ChangeAt Go.RowKit Go.Sx
theorem own : ownKnob Try.prog.godebug = none := by kernel_rfl
theorem laidOut : laidOutB Try.prog = true := by kernel_rfl
theorem zm3 : Try.prog.cellsOf 3 = 1 := by kernel_rfl
theorem yI8 : Try.prog.bytesOf 3 = 8 := by kernel_rfl
theorem ym7 : Try.prog.cellsOf 44 = 1 := by kernel_rfl
theorem yH1 : Try.prog.cellsOf 81 = 2 := by kernel_rfl
theorem yM3 : Try.prog.bytesOf 81 = 16 := by kernel_rfl
theorem yJ2 : Try.prog.cellsOf 65 = 1 := by kernel_rfl
theorem yu3 : Try.prog.cellsOf 95 = 2 := by kernel_rfl
theorem yJ0 : Try.prog.bytesOf 95 = 16 := by kernel_rfl
theorem yA7 : Try.prog.cellsOf 46 = 1 := by kernel_rfl
theorem yu2 : Try.prog.cellsOf 98 = 2 := by kernel_rfl
theorem yI9 : Try.prog.bytesOf 98 = 16 := by kernel_rfl
theorem yA6 : Try.prog.cellsOf 47 = 1 := by kernel_rfl
theorem yM4 : Try.prog.cellsOf 67 = 5 := by kernel_rfl
theorem yO6 : Try.prog.bytesOf 67 = 72 := by kernel_rfl
theorem yM5 : Try.prog.cellsOf 22 = 1 := by kernel_rfl
theorem yH0 : Try.prog.cellsOf 88 = 3 := by kernel_rfl
theorem yM2 : Try.prog.bytesOf 88 = 24 := by kernel_rfl
theorem yJ1 : Try.prog.cellsOf 23 = 1 := by kernel_rfl
theorem yM6 : Try.prog.cellsOf 49 = 6 := by kernel_rfl
theorem yO7 : Try.prog.bytesOf 49 = 96 := by kernel_rfl
theorem yM8 : Try.prog.cellsOf 24 = 1 := by kernel_rfl
theorem yM7 : Try.prog.cellsOf 26 = 3 := by kernel_rfl
section
variable {H : Type} {enc : TypeId × Value → H} {w : World}
set_option maxRecDepth 100000 in
theorem ym2 {r : Reach} {b0 : Nat} {v : Value} {d : DataW H} {ps : List MemPlace} (hv : Value.okWide Try.prog w r b0 3 v) (h : DataW.Trod enc Try.prog w 0 (fun _ => true) true 3 v d ps) : ∃ n, v = .int .i64 n ∧ (-9223372036854775808 ≤ n ∧ n ≤ 9223372036854775807) := by
  obtain ⟨n, rfl, _, _, hw⟩ := open_int Try.underlying3 hv h
  refine ⟨n, rfl, ?_⟩
  simp only [Lit.wf, Bool.and_eq_true, decide_eq_true_eq] at hw
  exact hw
theorem zm5 {cs : List Value} (h : Rz enc Try.prog w 3 cs) : ∃ x : Int, cs = encI x ∧ True := by
  obtain ⟨n, rfl, _⟩ := Rd.int Try.underlying3 h.rd
  exact ⟨n, rfl, trivial⟩
theorem yo4 {cs : List Value} (h : Rz enc Try.prog w 44 cs) : ∃ (s : SD) (l : List Int), cs = [sdV s] ∧ SV w 1 encI (sdV s) l ∧ l.length ≤ 17592186044416 := by
  obtain ⟨v, l, rfl, h1, _, h2⟩ := zu3 (good := fun _ => True) Try.underlying44 zm3 (by decide) yI8 i7 (fun cs h => zm5 h) h
  obtain ⟨a, c, rfl, _, _⟩ := h1.open
  exact ⟨(a, l.length, c), l, rfl, h1, by omega⟩
theorem yO3 {cs : List Value} (h : Rz enc Try.prog w 81 cs) : ∃ x : Plt.Sh, cs = zr1 x ∧ True := by
  obtain ⟨hl, hf⟩ := h.struct Try.underlying81
  rw [yH1] at hl
  obtain ⟨a, b, rfl⟩ := yj4 hl
  obtain ⟨x, hx, _⟩ := zm5 (hf 0 _ rfl)
  obtain ⟨y, hy, _⟩ := zm5 (hf 1 _ rfl)
  obtain rfl : a = .int .i64 x := by simpa [zm3, encI] using hx
  obtain rfl : b = .int .i64 y := by simpa [zm3, encI] using hy
  exact ⟨⟨x, y⟩, rfl, trivial⟩
theorem yL6 {cs : List Value} (h : Rz enc Try.prog w 65 cs) : ∃ (s : SD) (l : List Plt.Sh), cs = [sdV s] ∧ SV w 2 zr1 (sdV s) l ∧ l.length ≤ 17592186044416 := by
  obtain ⟨v, l, rfl, h1, _, h2⟩ := zu3 (good := fun _ => True) Try.underlying65 yH1 (by decide) yM3 zw8 (fun cs h => yO3 h) h
  obtain ⟨a, c, rfl, _, _⟩ := h1.open
  exact ⟨(a, l.length, c), l, rfl, h1, by omega⟩
theorem yL7 {cs : List Value} (h : Rz enc Try.prog w 95 cs) : ∃ x : Int × Int, cs = zG0 x ∧ True := by
  obtain ⟨hl, hf⟩ := h.struct Try.underlying95
  rw [yu3] at hl
  obtain ⟨a, b, rfl⟩ := yj4 hl
  obtain ⟨x, hx, _⟩ := zm5 (hf 0 _ rfl)
  obtain ⟨y, hy, _⟩ := zm5 (hf 1 _ rfl)
  obtain rfl : a = .int .i64 x := by simpa [zm3, encI] using hx
  obtain rfl : b = .int .i64 y := by simpa [zm3, encI] using hy
  exact ⟨⟨x, y⟩, rfl, trivial⟩
theorem yF7 {cs : List Value} (h : Rz enc Try.prog w 46 cs) : ∃ (s : SD) (l : List (Int × Int)), cs = [sdV s] ∧ SV w 2 zG0 (sdV s) l ∧ l.length ≤ 17592186044416 := by
  obtain ⟨v, l, rfl, h1, _, h2⟩ := zu3 (good := fun _ => True) Try.underlying46 yu3 (by decide) yJ0 zp7 (fun cs h => yL7 h) h
  obtain ⟨a, c, rfl, _, _⟩ := h1.open
  exact ⟨(a, l.length, c), l, rfl, h1, by omega⟩
theorem yL5 {cs : List Value} (h : Rz enc Try.prog w 98 cs) : ∃ x : Plt.Row, cs = zF9 x ∧ True := by
  obtain ⟨hl, hf⟩ := h.struct Try.underlying98
  rw [yu2] at hl
  obtain ⟨a, b, rfl⟩ := yj4 hl
  obtain ⟨x, hx, _⟩ := zm5 (hf 0 _ rfl)
  obtain ⟨y, hy, _⟩ := zm5 (hf 1 _ rfl)
  obtain rfl : a = .int .i64 x := by simpa [zm3, encI] using hx
  obtain rfl : b = .int .i64 y := by simpa [zm3, encI] using hy
  exact ⟨⟨x, y⟩, rfl, trivial⟩
theorem yF6 {cs : List Value} (h : Rz enc Try.prog w 47 cs) : ∃ (s : SD) (l : List Plt.Row), cs = [sdV s] ∧ SV w 2 zF9 (sdV s) l ∧ l.length ≤ 17592186044416 := by
  obtain ⟨v, l, rfl, h1, _, h2⟩ := zu3 (good := fun _ => True) Try.underlying47 yu2 (by decide) yI9 zp6 (fun cs h => yL5 h) h
  obtain ⟨a, c, rfl, _, _⟩ := h1.open
  exact ⟨(a, l.length, c), l, rfl, h1, by omega⟩
theorem yO2 {cs : List Value} (h : Rz enc Try.prog w 88 cs) : ∃ x : Plt.Item, cs = zq6 x ∧ True := by
  obtain ⟨hl, hf⟩ := h.struct Try.underlying88
  rw [yH0] at hl
  obtain ⟨a, b, c, rfl⟩ := yw0 hl
  obtain ⟨x, hx, _⟩ := zm5 (hf 0 _ rfl)
  obtain ⟨y, hy, _⟩ := zm5 (hf 1 _ rfl)
  obtain ⟨z, hz, _⟩ := zm5 (hf 2 _ rfl)
  obtain rfl : a = .int .i64 x := by simpa [zm3, encI] using hx
  obtain rfl : b = .int .i64 y := by simpa [zm3, encI] using hy
  obtain rfl : c = .int .i64 z := by simpa [zm3, encI] using hz
  exact ⟨⟨x, y, z⟩, rfl, trivial⟩
theorem yL4 {cs : List Value} (h : Rz enc Try.prog w 23 cs) : ∃ (s : SD) (l : List Plt.Item), cs = [sdV s] ∧ SV w 3 zq6 (sdV s) l ∧ l.length ≤ 17592186044416 := by
  obtain ⟨v, l, rfl, h1, _, h2⟩ := zu3 (good := fun _ => True) Try.underlying23 yH0 (by decide) yM2 zr0 (fun cs h => yO2 h) h
  obtain ⟨a, c, rfl, _, _⟩ := h1.open
  exact ⟨(a, l.length, c), l, rfl, h1, by omega⟩
def yG2 (w : World) (d : MD) (m : Plt.zb3) : Prop := MachV w d m ∧ m.caps.length ≤ 17592186044416 ∧ m.shifts.length ≤ 17592186044416
def yG3 (w : World) (d : PD) (y : Plt.za3) : Prop := PassV w d y ∧ y.src.length ≤ 17592186044416 ∧ y.table.length ≤ 17592186044416 ∧ y.unread.length ≤ 17592186044416
theorem yP2 {cs : List Value} (h : Rz enc Try.prog w 67 cs) : ∃ d : MD, cs = zP5 d ∧ ∃ m, yG2 w d m := by
  obtain ⟨hl, hf⟩ := h.struct Try.underlying67
  rw [yM4] at hl
  obtain ⟨a, b, c, d, e, rfl⟩ := yJ9 hl
  obtain ⟨x, hx, _⟩ := zm5 (hf 0 _ rfl)
  obtain ⟨y, hy, _⟩ := zm5 (hf 1 _ rfl)
  obtain ⟨z, hz, _⟩ := zm5 (hf 2 _ rfl)
  obtain ⟨s, l, hs, hv, hn⟩ := yo4 (hf 3 _ rfl)
  obtain ⟨s', l', hs', hv', hn'⟩ := yL6 (hf 4 _ rfl)
  obtain rfl : a = .int .i64 x := by simpa [zm3, encI] using hx
  obtain rfl : b = .int .i64 y := by simpa [zm3, encI] using hy
  obtain rfl : c = .int .i64 z := by simpa [zm3, encI] using hz
  obtain rfl : d = sdV s := by simpa [ym7] using hs
  obtain rfl : e = sdV s' := by simpa [yJ2] using hs'
  exact ⟨⟨x, y, z, s, s'⟩, rfl, ⟨x, y, z, l, l'⟩, ⟨rfl, rfl, rfl, hv, hv'⟩, hn, hn'⟩
theorem yP3 {cs : List Value} (h : Rz enc Try.prog w 49 cs) : ∃ d : PD, cs = zP6 d ∧ ∃ m, yG3 w d m := by
  obtain ⟨hl, hf⟩ := h.struct Try.underlying49
  rw [yM6] at hl
  obtain ⟨a, b, c, d, e, f, rfl⟩ := yK0 hl
  obtain ⟨x, hx, _⟩ := zm5 (hf 0 _ rfl)
  obtain ⟨y, hy, _⟩ := zm5 (hf 1 _ rfl)
  obtain ⟨z, hz, _⟩ := zm5 (hf 2 _ rfl)
  obtain ⟨s, l, hs, hv, hn⟩ := yF7 (hf 3 _ rfl)
  obtain ⟨s', l', hs', hv', hn'⟩ := yF6 (hf 4 _ rfl)
  obtain ⟨s'', l'', hs'', hv'', hn''⟩ := yo4 (hf 5 _ rfl)
  obtain rfl : a = .int .i64 x := by simpa [zm3, encI] using hx
  obtain rfl : b = .int .i64 y := by simpa [zm3, encI] using hy
  obtain rfl : c = .int .i64 z := by simpa [zm3, encI] using hz
  obtain rfl : d = sdV s := by simpa [yA7] using hs
  obtain rfl : e = sdV s' := by simpa [yA6] using hs'
  obtain rfl : f = sdV s'' := by simpa [ym7] using hs''
  exact ⟨⟨x, y, z, s, s', s''⟩, rfl, ⟨x, y, z, l, l', l''⟩, ⟨rfl, rfl, rfl, hv, hv', hv''⟩, hn, hn', hn''⟩
theorem ym1 {α β : Type} {R : α → β → Prop} {xs : List α} {ys : List β} (hl : ys.length = xs.length) (h : ∀ (i : Nat) (a : α) (b : β), xs[i]? = some a → ys[i]? = some b → R a b) : ∀ y ∈ ys, ∃ x, R x y := fun y hy => by
  obtain ⟨i, hi⟩ := List.getElem?_of_mem hy
  have := (List.getElem?_eq_some_iff.1 hi).1
  exact ⟨xs[i]'(by omega), h i _ y (List.getElem?_eq_getElem _) hi⟩
set_option maxRecDepth 100000 in
theorem yp1 {r : Reach} {b0 : Nat} {v : Value} {d : DataW H} {ps : List MemPlace} (hv : Value.okWide Try.prog w r b0 26 v) (h : DataW.Trod enc Try.prog w 0 (fun _ => true) true 26 v d ps) (hz : ∀ n ∈ d.weights Try.prog 26, n ≤ reachBytes) :
    ∃ (q : PlD) (p : Plt.i8), v = plV q ∧ PlV w q p ∧ Plt.Lim p := by
  obtain ⟨cs, rfl, _⟩ := okWide_struct Try.underlying26 hv
  obtain ⟨hl, hf⟩ := (Rz.of h hz).struct Try.underlying26
  rw [yM7] at hl
  simp only [Value.cells] at hl hf
  obtain ⟨a, b, c, hab⟩ := yw0 hl
  rw [hab] at hf
  obtain ⟨va, ds, ha, h1, gm, n1⟩ := zu3 (good := fun d => ∃ m, yG2 w d m) Try.underlying22 yM4 (by decide) yO6 zw6 (fun cs h => yP2 h) (hf 0 _ rfl)
  obtain ⟨s2, its, hb, h2, n2⟩ := yL4 (hf 1 _ rfl)
  obtain ⟨vc, ys, hc, h3, gp, n3⟩ := zu3 (good := fun d => ∃ m, yG3 w d m) Try.underlying24 yM6 (by decide) yO7 zw7 (fun cs h => yP3 h) (hf 2 _ rfl)
  obtain ⟨x1, c1, rfl, _, _⟩ := h1.open
  obtain ⟨x3, c3, rfl, _, _⟩ := h3.open
  obtain rfl : a = sdV (x1, ds.length, c1) := by simpa [yM5] using ha
  obtain rfl : b = sdV s2 := by simpa [yJ1] using hb
  obtain rfl : c = sdV (x3, ys.length, c3) := by simpa [yM8] using hc
  obtain ⟨ms, hml, hmr⟩ := zO8 gm
  obtain ⟨zs, hpl, hpr⟩ := zO8 gp
  refine ⟨⟨(x1, ds.length, c1), s2, (x3, ys.length, c3), ds, ys⟩, ⟨ms, its, zs⟩, ?_, ⟨h1, h2, h3, hml.symm, hpl.symm, fun i d m e1 e2 => (hmr i d m e1 e2).1, fun i d m e1 e2 => (hpr i d m e1 e2).1⟩, ⟨?_, n2, ?_, ?_, ?_⟩⟩
  · rw [show cs = #[sdV (x1, ds.length, c1), sdV s2, sdV (x3, ys.length, c3)] from by rw [← Array.toArray_toList (xs := cs), hab]]
  · show ms.length ≤ _; omega
  · show zs.length ≤ _; omega
  · intro m hm
    obtain ⟨d, hd⟩ := ym1 hml hmr m hm
    exact hd.2
  · intro m hm
    obtain ⟨d, hd⟩ := ym1 hpl hpr m hm
    exact hd.2
end
end Go.Proofs.Ytdahckhlfldkkaa
namespace Go.Proofs.Ytdahckhlfldkkaa
open Go Go.ChangeShapes Go.WideShapes Go.ChangeAt Go.RowKit Go.Sx
set_option maxRecDepth 100000 in
theorem zI4 (os : Os) (started : os.Started) (H : Type) (enc : TypeId × Value → H) :
    ReturnsInHanded {} Try.checked os 3 .any (Rows.plantWhereSpec.pre6 enc Try.prog Try.f3 Rows.plantWhereRow.domain false) (Rows.plantWhereSpec.post enc Try.prog Try.f3 false true false false) := by
  refine returnsInHanded_of_change_sized (C := Try.checked) own started (by kernel_rfl) Try.func3
    (ChangeSpec.witness6 (enc := enc) (C := Try.checked) false ⟨#[], #[.agg #[.slice none 0 0, .slice none 0 0, .slice none 0 0], .int .i64 0, .int .i64 0], []⟩ 8 (by kernel_rfl) (by kernel_rfl) (by kernel_rfl) (by kernel_rfl)) ?_
  intro W base args ds gs before hval0 hW hcnd hsz _
  have hval : ∀ (j : Nat) t v, Try.f3.params[j]? = some t → args[j]? = some v → Value.okWide Try.prog W .any base t v := hval0
  have hW' := hW
  obtain ⟨p, q, hA0, hV, rfl, hfz, hnd⟩ := hW
  have hA : DataW.TrodAll enc Try.prog W 0 (fun _ => true) true Try.f3.params.toList args.toList ds p := hA0
  rw [Try.params3] at hA hval
  obtain ⟨v0, vs0, d0, ds0, p0, q0, hargs, rfl, rfl, h0, r0⟩ := trodAll_cons hA
  obtain ⟨v1, vs1, d1, ds1, p1, q1, rfl, rfl, rfl, h1, r1⟩ := trodAll_cons r0
  obtain ⟨v2, vs2, d2, ds2, p2, q2, rfl, rfl, rfl, h2, r2⟩ := trodAll_cons r1
  obtain ⟨rfl, rfl, rfl⟩ := trodAll_nil r2
  obtain rfl : args = #[v0, v1, v2] := by cases args; simp_all
  obtain ⟨rfl, rfl⟩ := trodVars_none hV
  have lt0 := Rd.lt h0
  have hv0 := hval 0 26 v0 rfl rfl
  have lt1 := Rd.lt h1
  have hv1 := hval 1 3 v1 rfl rfl
  have lt2 := Rd.lt h2
  have hv2 := hval 2 3 v2 rfl rfl
  have sz0 : ∀ n ∈ d0.weights Try.prog 26, n ≤ reachBytes := fun n hn => of_decide_eq_true (List.all_eq_true.1 hsz n (DataW.weights_mem_each (j := 0) (by rw [Try.params3]; rfl) rfl n hn))
  have sz1 : ∀ n ∈ d1.weights Try.prog 3, n ≤ reachBytes := fun n hn => of_decide_eq_true (List.all_eq_true.1 hsz n (DataW.weights_mem_each (j := 1) (by rw [Try.params3]; rfl) rfl n hn))
  have sz2 : ∀ n ∈ d2.weights Try.prog 3, n ≤ reachBytes := fun n hn => of_decide_eq_true (List.all_eq_true.1 hsz n (DataW.weights_mem_each (j := 2) (by rw [Try.params3]; rfl) rfl n hn))
  clear hA0 hval0
  obtain ⟨q, p, rfl, hpl, hlim⟩ := yp1 hv0 h0 sz0
  obtain ⟨x, rfl, _⟩ := ym2 hv1 h1
  obtain ⟨t, rfl, _⟩ := ym2 hv2 h2
  refine (zL2 hlim W hpl).mono fun e W' ⟨he, bel⟩ => ?_
  subst he
  exact ⟨_, rfl, _, _, _, [], _, [], hW', trodAll_mk1 (shut_bool Try.underlying4 _), (trodAll_cons_mk (Below.trod laidOut (by kernel_rfl) (of_decide_eq_true (by kernel_rfl)) h0 bel lt0) (trodAll_cons_mk (Below.trod laidOut (by kernel_rfl) (of_decide_eq_true (by kernel_rfl)) h1 bel lt1) (trodAll_cons_mk (Below.trod laidOut (by kernel_rfl) (of_decide_eq_true (by kernel_rfl)) h2 bel lt2) trodAll_mk0))), rfl, bel.frame _, fun h => by cases h⟩
theorem plantWhere_proved : Rows.PlantWhereSaid :=
  OpenClaim.holds_of_wide 3 Try.f3 rfl rfl rfl rfl rfl rfl rfl ⟨rfl, rfl, rfl, rfl, rfl⟩ rfl rfl rfl rfl rfl (by kernel_rfl) Try.func3 (by kernel_rfl)
    (of_decide_eq_true (by kernel_rfl)) (by unfold Func.isWrapper; first | (rw [if_pos (by decide +kernel)]; kernel_rfl) | (rw [if_neg (by decide +kernel)]; exact ⟨rfl, rfl⟩))
    (fun os started H enc _ => zI4 os started H enc)
end Go.Proofs.Ytdahckhlfldkkaa
