/- A part of the proofs of this seat: a small logic of walks, plain laws, and what some of the program's functions compute, shown by walks through their code. Conditions: the hypotheses that each theorem names. -/
import Derived.Test.YtdahckhlfldkkaaZPSmall6
import Derived.Test.YtdahckhlfldkkaaZPSmall3
import Derived.Test.YtdahckhlfldkkaaZPSmall10
set_option linter.unusedSimpArgs false
set_option linter.unusedVariables false
set_option linter.unusedSectionVars false
namespace Go.Sx
open Go Go.RowKit
section
variable {P : Program} {n : Nat} {D : List Deferred} {w0 : World} {F : List (Nat × Value)} {L L0 : List Ent} {Q : Exit → Act → World → Prop} {lq : List Oper} {fq : Nat}
theorem yu1 {m k1 m1 k2 m2 k3 m3 k4 m4 : Nat} {o1 o2 o3 o4 : Oper} (hr : zm2 lq m = [k1, k2, k3, k4]) (ho1 : zB9 lq k1 = some o1) (hm1 : Nat.lor m (2 ^ k1) = m1) (ho2 : zB9 lq k2 = some o2) (hm2 : Nat.lor m (2 ^ k2) = m2) (ho3 : zB9 lq k3 = some o3) (hm3 : Nat.lor m (2 ^ k3) = m3) (ho4 : zB9 lq k4 = some o4) (hm4 : Nat.lor m (2 ^ k4) = m4)
    (h1 : St n D w0 F L (WL none P lq.toArray (QB P lq w0 L0 Q fq m1) [o1])) (h2 : St n D w0 F L (WL none P lq.toArray (QB P lq w0 L0 Q fq m2) [o2])) (h3 : St n D w0 F L (WL none P lq.toArray (QB P lq w0 L0 Q fq m3) [o3])) (h4 : St n D w0 F L (WL none P lq.toArray (QB P lq w0 L0 Q fq m4) [o4])) : St n D w0 F L (WB P lq w0 L0 Q (fq + 1) m) := by
  intro a w ha hw h0
  refine ⟨fun h => (by rw [zm2] at hr; rw [hr] at h; cases h), fun i hi => ?_⟩
  rw [zm2] at hr
  rw [hr] at hi
  simp only [List.mem_cons, List.not_mem_nil, or_false] at hi
  rcases hi with rfl | rfl | rfl | rfl
  · exact zF1 ho1 hm1 (h1 a w ha hw)
  · exact zF1 ho2 hm2 (h2 a w ha hw)
  · exact zF1 ho3 hm3 (h3 a w ha hw)
  · exact zF1 ho4 hm4 (h4 a w ha hw)
end
end Go.Sx
namespace Go.Sx.Srt
theorem ym9 {n : Nat} : ∀ {l : List Fd} {met : List Int}, zA9 n met l = false → ∀ f ∈ l, f.ok n
  | [], _, _, f, hf => by cases hf
  | x :: r, met, h, f, hf => by
    rw [zA9] at h
    split at h
    · rename_i hx
      rcases List.mem_cons.1 hf with rfl | hf
      · exact hx.1
      · exact ym9 h f hf
    · cases h
end Go.Sx.Srt
namespace Go.Proofs.Ytdahckhlfldkkaa
open Go Go.Sx Go.RowKit
attribute [local irreducible] WL WC WQ WR WB WF QB St Exit.then Exit.inBlock Exit.noGoto bodyPost roundPost zc1 YR RG BM Calls B zc7 ze3
def stR (E : List Srt.Ev) (k : Nat) : List (List Int) := (List.range k).map fun (j : Nat) => Srt.zf4 E (j : Int)
def swR (E : List Srt.Ev) (k : Nat) : List Int := (List.range k).map fun (j : Nat) => Srt.zk7 E (j : Int)
theorem yz1 (E : List Srt.Ev) (k : Nat) : stR E (k + 1) = stR E k ++ [Srt.zf4 E (k : Int)] := by simp [stR, List.range_succ]
theorem yz2 (E : List Srt.Ev) (k : Nat) : swR E (k + 1) = swR E k ++ [Srt.zk7 E (k : Int)] := by simp [swR, List.range_succ]
theorem yo9 (E : List Srt.Ev) (k : Nat) : (stR E k).length = k := by simp [stR]
theorem yG0 (E : List Srt.Ev) (k : Nat) : (swR E k).length = k := by simp [swR]
theorem yg9 (l : List Srt.Ev) (k : Int) : (Srt.zf4 l k).length ≤ l.length := by
  unfold Srt.zf4; rw [List.length_map]; exact List.length_filter_le _ _
theorem yd8 (l : List Srt.Ev) (k : Int) : (Srt.kindOf l k).length ≤ l.length := by
  unfold Srt.kindOf; rw [List.length_map]; exact List.length_filter_le _ _
def passX (m : Srt.M) (v : Value) (N : List Ent) : Prop := ∃ a1 c1 a2 c2 a3 c3 a4 c4 a5 c5 ss N1 M1 N2 N3 N4 N5, v = .agg #[.slice a1 m.stackers.length c1, .slice a2 m.swept.length c2, .slice a3 m.over.length c3, .slice a4 m.rej.length c4, .slice a5 m.evs.length c5] ∧
  OW 44 1 encS (.slice a1 m.stackers.length c1) ss N1 ∧ LL 3 1 encI ss m.stackers M1 ∧ OW 3 1 encI (.slice a2 m.swept.length c2) m.swept N2 ∧ OW 3 1 encI (.slice a3 m.over.length c3) m.over N3 ∧ OW 3 1 encI (.slice a4 m.rej.length c4) m.rej N4 ∧ OW 174 3 zp1 (.slice a5 m.evs.length c5) m.evs N5 ∧
  N = N1 ++ (M1 ++ (N2 ++ (N3 ++ (N4 ++ N5))))
theorem passX.own {m : Srt.M} {v : Value} {N : List Ent} (h : passX m v N) : ∀ x ∈ N, x.own = true := by
  obtain ⟨a1, c1, a2, c2, a3, c3, a4, c4, a5, c5, ss, N1, M1, N2, N3, N4, N5, rfl, h1, h2, h3, h4, h5, h6, rfl⟩ := h
  intro x hx
  simp only [List.mem_append] at hx
  rcases hx with hx | hx | hx | hx | hx | hx
  · exact h1.own x hx
  · exact h2.own x hx
  · exact h3.own x hx
  · exact h4.own x hx
  · exact h5.own x hx
  · exact h6.own x hx
theorem passX.zero : passX (Srt.M.new 0 0) (.agg #[.slice none 0 0, .slice none 0 0, .slice none 0 0, .slice none 0 0, .slice none 0 0]) [] :=
  ⟨none, 0, none, 0, none, 0, none, 0, none, 0, [], [], [], [], [], [], [], rfl, OW.nil, LL.nil, OW.nil, OW.nil, OW.nil, OW.nil, rfl⟩
theorem passX.same {m m' : Srt.M} {v : Value} {N : List Ent} (h : passX m v N) (e : Srt.yG2 m m') : passX m' v N := by
  obtain ⟨e1, e2, e3, e4, e5⟩ := e
  unfold passX at h ⊢
  rw [← e1, ← e2, ← e3, ← e4, ← e5]
  exact h
set_option maxHeartbeats 16000000 in
set_option maxRecDepth 100000 in
theorem yi0 {cv fv : Value} {caps : List Int} {s : Int} {l : List Srt.Fd} (w : World) (h : SV w 1 encI cv caps) (hl : SV w 2 zo0 fv l) (hn : caps.length ≤ 64) (hs : 0 ≤ s ∧ s ≤ 1000) (hlen : l.length ≤ 2000) (hst : ∀ f ∈ l, -1 ≤ f.st ∧ f.st < caps.length) :
    Calls Try.prog 47 #[cv, .int .i64 s, fv] w fun e w' => ∃ v N, e = .returned v ∧ passX (Srt.yp0 caps.length (Srt.evF caps s l).1) v N ∧ Rep w w' N ∧ ∀ x ∈ N, x.own = true := by
  obtain ⟨a0, c0, rfl, hc0, hop0⟩ := h.open
  obtain ⟨a1, c1, rfl, hc1, hop⟩ := hl.open
  have hel := Srt.yn3 caps s l
  refine zd8 Try.func47 rfl Try.ntmps47 rfl (Rep.start w) ?_
  repeat' (first | ((first | ((apply f5 (f := 59)); exact rfl) | ((apply d6 (f := 59)); exact rfl; exact rfl; exact sJ_)); exact eV_; exact (fun w hw => zU6 w (h.keep hw (by exact aO_)) (hl.keep hw (by exact aO_)) hs hlen hst); rintro v NE ⟨ae, ce, rfl, hE⟩ <;> (try simp only [List.cons_append, List.nil_append, List.append_assoc])) | ((first | apply w9 | apply y8 | apply x8); exact rfl; exact rfl) | (apply o7; exact rfl; intro _) | (apply q7; first | refine q8 (h := ?_) | refine q9 (h := ?_)) | (apply g7; first | refine a8 (h := ?_)) | ((first | apply s9 | apply x9 | apply z8 | apply s7 | apply s8 | apply w4 | apply z9 | apply w5)) | ((first | apply w6 | apply z6 | apply z0 | apply p5 | apply y0 | apply z7)))
  rename_i b6 b7
  generalize (Srt.evF caps s l).1 = E at hE hel ⊢
  have oE := hE.own
  apply j9 (σ := Nat × (List SD × (Option Addr × Nat) × List Ent × List Ent) × ((Option Addr × Nat) × List Ent)) (Fs := fun t => [(8, .int .i64 t.1), (7, ptr b7), (6, ptr b6), (0, .slice a0 caps.length c0)])
    (Ls := fun t => ⟨b7, Ce [.slice t.2.1.2.1.1 t.2.1.1.length t.2.1.2.1.2, .slice t.2.2.1.1 (swR E t.1).length t.2.2.1.2, .slice none 0 0, .slice none 0 0, .slice ae E.length ce] 104, true⟩ :: ⟨b6, Ce [.slice none 0 0, .slice none 0 0, .slice none 0 0, .slice none 0 0, .slice none 0 0] 104, true⟩ :: (NE ++ (t.2.1.2.2.1 ++ (t.2.1.2.2.2 ++ (t.2.2.2 ++ [])))))
    (I := fun t => t.1 ≤ caps.length ∧ OW 44 1 encS (.slice t.2.1.2.1.1 t.2.1.1.length t.2.1.2.1.2) t.2.1.1 t.2.1.2.2.1 ∧ LL 3 1 encI t.2.1.1 (stR E t.1) t.2.1.2.2.2 ∧ OW 3 1 encI (.slice t.2.2.1.1 (swR E t.1).length t.2.2.1.2) (swR E t.1) t.2.2.2)
    (μ := fun t => caps.length - t.1) (s0 := (0, ([], (none, 0), [], []), ((none, 0), [])))
  · exact ⟨Nat.zero_le _, OW.nil, LL.nil, OW.nil⟩
  · exact fS_
  · dsimp only; simp only [List.nil_append]; exact hS_
  rintro ⟨k, ⟨ss, ⟨as_, cs⟩, NSt, M⟩, ⟨aw, cw⟩, NW⟩ ⟨hk, hS, hM, hW⟩
  dsimp only at hk hS hM hW ⊢
  have oSt := hS.own
  have oM := hM.own
  have oW := hW.own
  have hsl := hM.len
  rw [yo9] at hsl
  have hwl := yG0 E k
  by_cases hlt : k < caps.length
  · repeat' (first | (apply v8; exact rfl; exact dT_) | ((first | apply w9 | apply y8 | apply x8); exact rfl; exact rfl) | ((first | apply p3 | apply l0); exact rfl; exact rfl; exact rfl) | (apply o9; infer_instance; exact rfl; exact rfl) | ((first | apply s9 | apply x9 | apply z8 | apply s7 | apply s8 | apply w4 | apply z9 | apply w5)) | ((first | apply w6 | apply z6 | apply z0 | apply p5 | apply y0 | apply z7)))
    apply j9 (σ := Nat × (Option Addr × Nat) × List Ent) (Fs := fun t => [(11, .int .i64 t.1), (10, .int .i64 (Srt.zk7 (E.take t.1) (k : Int))), (9, .slice t.2.1.1 (Srt.zf4 (E.take t.1) (k : Int)).length t.2.1.2), (8, .int .i64 k), (7, ptr b7), (6, ptr b6), (0, .slice a0 caps.length c0)])
      (Ls := fun t => ⟨b7, Ce [.slice as_ ss.length cs, .slice aw (swR E k).length cw, .slice none 0 0, .slice none 0 0, .slice ae E.length ce] 104, true⟩ :: ⟨b6, Ce [.slice none 0 0, .slice none 0 0, .slice none 0 0, .slice none 0 0, .slice none 0 0] 104, true⟩ :: (t.2.2 ++ (NE ++ (NSt ++ (M ++ (NW ++ []))))))
      (I := fun t => t.1 ≤ E.length ∧ OW 3 1 encI (.slice t.2.1.1 (Srt.zf4 (E.take t.1) (k : Int)).length t.2.1.2) (Srt.zf4 (E.take t.1) (k : Int)) t.2.2) (μ := fun t => E.length - t.1) (s0 := (0, (none, 0), []))
    · exact ⟨Nat.zero_le _, OW.nil⟩
    · exact fS_
    · dsimp only; simp only [List.nil_append]; exact hS_
    rintro ⟨i, ⟨al, cl⟩, NL⟩ ⟨hi, hL⟩
    dsimp only at hi hL ⊢
    have oL := hL.own
    have hsb := Srt.yl8 (E.take i) (k : Int)
    have hll := yg9 (E.take i) (k : Int)
    rw [List.length_take] at hsb hll
    by_cases hli : i < E.length
    · obtain ⟨⟨kd, it, st⟩, hx⟩ : ∃ x, E[i]? = some x := ⟨_, List.getElem?_eq_getElem hli⟩
      obtain ⟨bE, sE, rfl, rfl⟩ := OW.some hE (by omega)
      have gx : ∀ (j : Nat) (u : Value), ([.int .u8 kd, .int .i64 it, .int .i64 st] : List Value)[j]? = some u → (E.flatMap zp1 ++ sE).toArray[0 + i * 3 + j]? = some u := (Pat.flat ze4 E sE).get hx
      have e1 := Srt.zl7 (E.take i) ⟨kd, it, st⟩ (k : Int)
      have e2 := Srt.zo9 (E.take i) ⟨kd, it, st⟩ (k : Int)
      rw [← take_snoc hx] at e1 e2
      dsimp only at e1 e2
      simp only [List.cons_append, List.nil_append]
      by_cases hst : st = (k : Int)
      · by_cases h1 : kd = 1
        · rw [if_pos ⟨hst, h1⟩] at e1
          rw [if_neg (by omega), Int.add_zero] at e2
          as_aux_lemma =>
            repeat' (first | (apply v8; exact rfl; exact dT_) | (apply v9; exact rfl; exact dF_) | (apply n8; exact rfl; exact dT_; exact rfl; exact rfl) | (apply k9; exact rfl; exact dT_) | (apply zc4 (enc := encI) (ys := [(it)]); infer_instance; infer_instance; infer_instance; exact rfl; exact j8; exact zg4; exact rfl; exact rfl; exact rfl; assumption; exact rL_; (exact fun w hw => SV.lit [(it)] j8 hw (by exact aT_) rfl rfl (by decide)); (first | decide | (constructor <;> (try simp only [List.length_cons, List.length_nil]) <;> omega) | (constructor <;> simp <;> omega)); intro a_ cp_ N_ hO_; have oN_ := hO_.own; (try simp only [List.nil_append, List.append_assoc] at hO_); (try simp only [List.append_eq, List.append_assoc, List.cons_append, List.nil_append])) | ((first | apply w9 | apply y8 | apply x8); exact rfl; exact rfl) | (apply za7; exact rfl; exact rfl) | (apply w7; first | refine u9 (h := ?_) | refine y9 (h := ?_) | refine w8 (h := ?_) | refine q6 (h := ?_) | refine q0 (h := ?_)) | ((first | apply p3 | apply l0); exact rfl; exact rfl; exact rfl) | (apply j0; exact rfl; exact rfl; exact rfl; (constructor <;> omega)) | (apply o9; infer_instance; exact rfl; exact rfl) | (apply m9; refine l9 (h := fun _ => ?_)) | (apply m8; infer_instance; infer_instance; exact rfl; exact rfl; (first | exact rfl | omega); exact rfl; (first | assumption | omega | decide)) | ((first | apply s9 | apply x9 | apply z8 | apply s7 | apply s8 | apply w4 | apply z9 | apply w5)) | ((first | apply w6 | apply z6 | apply z0 | apply p5 | apply y0 | apply z7)))
            rw [← e1] at hO_ ⊢
            refine o0 (i + 1, (a_, cp_), N_) ⟨by dsimp only; omega, hO_⟩ (by dsimp only; omega) ?_ ?_
            · dsimp only; rw [e2]; exact fS_
            · (try simp only [List.cons_append, List.nil_append]); exact hS_
        · rw [if_neg (fun h => h1 h.2), List.append_nil] at e1
          by_cases h2 : kd = 2
          · rw [if_pos ⟨hst, h2⟩] at e2
            as_aux_lemma =>
              repeat' (first | (apply v8; exact rfl; exact dT_) | (apply v9; exact rfl; exact dF_) | (apply n8; exact rfl; exact dT_; exact rfl; exact rfl) | (apply k9; exact rfl; exact dT_) | ((first | apply w9 | apply y8 | apply x8); exact rfl; exact rfl) | (apply za7; exact rfl; exact rfl) | (apply w7; first | refine u9 (h := ?_) | refine y9 (h := ?_) | refine w8 (h := ?_) | refine q6 (h := ?_) | refine q0 (h := ?_)) | ((first | apply p3 | apply l0); exact rfl; exact rfl; exact rfl) | (apply j0; exact rfl; exact rfl; exact rfl; (constructor <;> omega)) | (apply o9; infer_instance; exact rfl; exact rfl) | (apply m8; infer_instance; infer_instance; exact rfl; exact rfl; (first | exact rfl | omega); exact rfl; (first | assumption | omega | decide)) | ((first | apply s9 | apply x9 | apply z8 | apply s7 | apply s8 | apply w4 | apply z9 | apply w5)) | ((first | apply w6 | apply z6 | apply z0 | apply p5 | apply y0 | apply z7)))
              refine o0 (i + 1, (al, cl), NL) ⟨by dsimp only; omega, by dsimp only; rw [e1]; exact hL⟩ (by dsimp only; omega) ?_ ?_
              · dsimp only; rw [e1, e2]; exact fS_
              · (try simp only [List.cons_append, List.nil_append]); exact hS_
          · rw [if_neg (fun h => h2 h.2), Int.add_zero] at e2
            as_aux_lemma =>
              repeat' (first | (apply v8; exact rfl; exact dT_) | (apply v9; exact rfl; exact dF_) | (apply n8; exact rfl; exact dT_; exact rfl; exact rfl) | (apply k9; exact rfl; exact dT_) | ((first | apply w9 | apply y8 | apply x8); exact rfl; exact rfl) | (apply za7; exact rfl; exact rfl) | (apply w7; first | refine u9 (h := ?_) | refine y9 (h := ?_) | refine w8 (h := ?_) | refine q6 (h := ?_) | refine q0 (h := ?_)) | ((first | apply p3 | apply l0); exact rfl; exact rfl; exact rfl) | (apply j0; exact rfl; exact rfl; exact rfl; (constructor <;> omega)) | (apply o9; infer_instance; exact rfl; exact rfl) | (apply m8; infer_instance; infer_instance; exact rfl; exact rfl; (first | exact rfl | omega); exact rfl; (first | assumption | omega | decide)) | ((first | apply s9 | apply x9 | apply z8 | apply s7 | apply s8 | apply w4 | apply z9 | apply w5)) | ((first | apply w6 | apply z6 | apply z0 | apply p5 | apply y0 | apply z7)))
              refine o0 (i + 1, (al, cl), NL) ⟨by dsimp only; omega, by dsimp only; rw [e1]; exact hL⟩ (by dsimp only; omega) ?_ ?_
              · dsimp only; rw [e1, e2]; exact fS_
              · (try simp only [List.cons_append, List.nil_append]); exact hS_
      · rw [if_neg (fun h => hst h.1), List.append_nil] at e1
        rw [if_neg (fun h => hst h.1), Int.add_zero] at e2
        as_aux_lemma =>
          repeat' (first | (apply v8; exact rfl; exact dT_) | (apply p9; exact rfl; exact dF_; exact rfl; exact rfl) | (apply za5; exact rfl; exact dF_; exact rfl) | ((first | apply w9 | apply y8 | apply x8); exact rfl; exact rfl) | (apply za7; exact rfl; exact rfl) | (apply w7; first | refine u9 (h := ?_) | refine y9 (h := ?_) | refine w8 (h := ?_) | refine q6 (h := ?_) | refine q0 (h := ?_)) | ((first | apply p3 | apply l0); exact rfl; exact rfl; exact rfl) | (apply j0; exact rfl; exact rfl; exact rfl; (constructor <;> omega)) | (apply o9; infer_instance; exact rfl; exact rfl) | (apply m8; infer_instance; infer_instance; exact rfl; exact rfl; (first | exact rfl | omega); exact rfl; (first | assumption | omega | decide)) | ((first | apply s9 | apply x9 | apply z8 | apply s7 | apply s8 | apply w4 | apply z9 | apply w5)) | (apply v9; exact rfl; exact fF_) | ((first | apply w6 | apply z6 | apply z0 | apply p5 | apply y0 | apply z7)))
          refine o0 (i + 1, (al, cl), NL) ⟨by dsimp only; omega, by dsimp only; rw [e1]; exact hL⟩ (by dsimp only; omega) ?_ ?_
          · dsimp only; rw [e1, e2]; exact fS_
          · (try simp only [List.cons_append, List.nil_append]); exact hS_
    obtain rfl : i = E.length := by omega
    rw [List.take_length] at hL hsb hll ⊢
    have hS2 := hM.snoc (s := ((al, (Srt.zf4 E (k : Int)).length, cl) : SD)) hL
    rw [← yz1] at hS2
    have e3 := yz2 E k
    as_aux_lemma =>
      repeat' (first | (apply v9; exact rfl; exact dF_) | (apply zc4 (enc := encS) (ys := [(((al, (Srt.zf4 E (k : Int)).length, cl) : SD))]); infer_instance; infer_instance; infer_instance; exact rfl; exact zl1; exact yu6; exact rfl; exact rfl; exact rfl; assumption; exact rL_; (exact fun w hw => SV.lit [(((al, (Srt.zf4 E (k : Int)).length, cl) : SD))] zl1 hw (by exact aT_) rfl rfl (by decide)); (first | decide | (constructor <;> (try simp only [List.length_cons, List.length_nil]) <;> omega) | (constructor <;> simp <;> omega)); intro a' cap' N' hO'; have oN' := hO'.own) | (apply zc4 (enc := encI) (ys := [(Srt.zk7 E (k : Int))]); infer_instance; infer_instance; infer_instance; exact rfl; exact j8; exact zg4; exact rfl; exact rfl; exact rfl; assumption; exact rL_; (exact fun w hw => SV.lit [(Srt.zk7 E (k : Int))] j8 hw (by exact aT_) rfl rfl (by decide)); (first | decide | (constructor <;> (try simp only [List.length_cons, List.length_nil]) <;> omega) | (constructor <;> simp <;> omega)); intro a_ cp_ N_ hO_; have oN_ := hO_.own; (try simp only [List.nil_append, List.append_assoc] at hO_); (try simp only [List.append_eq, List.append_assoc, List.cons_append, List.nil_append])) | ((apply zw1 (id := 14) ([]) 14); kernel_rfl; kernel_rfl; exact hS_) | ((apply i8 (fq := 13) (m := 0) (k := 0) (m' := 1)); kernel_rfl; exact rfl; kernel_rfl) | ((apply i8 (fq := 12) (m := 1) (k := 2) (m' := 5)); kernel_rfl; exact rfl; kernel_rfl) | ((apply i8 (fq := 11) (m := 5) (k := 5) (m' := 37)); kernel_rfl; exact rfl; kernel_rfl) | ((apply i8 (fq := 10) (m := 37) (k := 7) (m' := 165)); kernel_rfl; exact rfl; kernel_rfl) | ((apply yu1 (fq := 9) (m := 165) (k1 := 1) (m1 := 167) (k2 := 3) (m2 := 173) (k3 := 6) (m3 := 229) (k4 := 8) (m4 := 421)); kernel_rfl; exact rfl; kernel_rfl; exact rfl; kernel_rfl; exact rfl; kernel_rfl; exact rfl; kernel_rfl) | ((apply zw0 (fq := 8) (m := 421) (k1 := 1) (m1 := 423) (k2 := 3) (m2 := 429) (k3 := 6) (m3 := 485)); kernel_rfl; exact rfl; kernel_rfl; exact rfl; kernel_rfl; exact rfl; kernel_rfl) | ((apply zk8 (fq := 7) (m := 485) (k1 := 1) (m1 := 487) (k2 := 3) (m2 := 493)); kernel_rfl; exact rfl; kernel_rfl; exact rfl; kernel_rfl) | ((apply zd7 (fq := 6) (m := 493) (k1 := 1) (m1 := 495)); kernel_rfl; exact rfl; kernel_rfl) | ((apply zd7 (fq := 5) (m := 495) (k1 := 4) (m1 := 511)); kernel_rfl; exact rfl; kernel_rfl) | ((apply i8 (fq := 4) (m := 511) (k := 10) (m' := 1535)); kernel_rfl; exact rfl; kernel_rfl) | ((apply zd7 (fq := 3) (m := 1535) (k1 := 9) (m1 := 2047)); kernel_rfl; exact rfl; kernel_rfl) | ((apply zd7 (fq := 2) (m := 2047) (k1 := 11) (m1 := 4095)); kernel_rfl; exact rfl; kernel_rfl) | ((apply i8 (fq := 1) (m := 4095) (k := 12) (m' := 8191)); kernel_rfl; exact rfl; kernel_rfl) | ((apply zd7 (fq := 0) (m := 8191) (k1 := 13) (m1 := 16383)); kernel_rfl; exact rfl; kernel_rfl) | ((apply zd7 (fq := 6) (m := 487) (k1 := 3) (m1 := 495)); kernel_rfl; exact rfl; kernel_rfl) | ((apply zk8 (fq := 7) (m := 429) (k1 := 1) (m1 := 431) (k2 := 6) (m2 := 493)); kernel_rfl; exact rfl; kernel_rfl; exact rfl; kernel_rfl) | ((apply zk8 (fq := 6) (m := 431) (k1 := 4) (m1 := 447) (k2 := 6) (m2 := 495)); kernel_rfl; exact rfl; kernel_rfl; exact rfl; kernel_rfl) | ((apply zd7 (fq := 5) (m := 447) (k1 := 6) (m1 := 511)); kernel_rfl; exact rfl; kernel_rfl) | ((apply zk8 (fq := 7) (m := 423) (k1 := 3) (m1 := 431) (k2 := 6) (m2 := 487)); kernel_rfl; exact rfl; kernel_rfl; exact rfl; kernel_rfl) | ((apply zw0 (fq := 8) (m := 229) (k1 := 1) (m1 := 231) (k2 := 3) (m2 := 237) (k3 := 8) (m3 := 485)); kernel_rfl; exact rfl; kernel_rfl; exact rfl; kernel_rfl; exact rfl; kernel_rfl) | ((apply zk8 (fq := 7) (m := 237) (k1 := 1) (m1 := 239) (k2 := 8) (m2 := 493)); kernel_rfl; exact rfl; kernel_rfl; exact rfl; kernel_rfl) | ((apply zk8 (fq := 6) (m := 239) (k1 := 4) (m1 := 255) (k2 := 8) (m2 := 495)); kernel_rfl; exact rfl; kernel_rfl; exact rfl; kernel_rfl) | ((apply i8 (fq := 5) (m := 255) (k := 10) (m' := 1279)); kernel_rfl; exact rfl; kernel_rfl) | ((apply zd7 (fq := 4) (m := 1279) (k1 := 8) (m1 := 1535)); kernel_rfl; exact rfl; kernel_rfl) | ((apply zk8 (fq := 7) (m := 231) (k1 := 3) (m1 := 239) (k2 := 8) (m2 := 487)); kernel_rfl; exact rfl; kernel_rfl; exact rfl; kernel_rfl) | ((apply zw0 (fq := 8) (m := 173) (k1 := 1) (m1 := 175) (k2 := 6) (m2 := 237) (k3 := 8) (m3 := 429)); kernel_rfl; exact rfl; kernel_rfl; exact rfl; kernel_rfl; exact rfl; kernel_rfl) | ((apply zw0 (fq := 7) (m := 175) (k1 := 4) (m1 := 191) (k2 := 6) (m2 := 239) (k3 := 8) (m3 := 431)); kernel_rfl; exact rfl; kernel_rfl; exact rfl; kernel_rfl; exact rfl; kernel_rfl) | ((apply zk8 (fq := 6) (m := 191) (k1 := 6) (m1 := 255) (k2 := 8) (m2 := 447)); kernel_rfl; exact rfl; kernel_rfl; exact rfl; kernel_rfl) | ((apply zw0 (fq := 8) (m := 167) (k1 := 3) (m1 := 175) (k2 := 6) (m2 := 231) (k3 := 8) (m3 := 423)); kernel_rfl; exact rfl; kernel_rfl; exact rfl; kernel_rfl; exact rfl; kernel_rfl) | (apply zO6; kernel_rfl) | (apply yt9; exact hS_) | ((first | apply zO7 | apply zA8); exact rfl; exact rfl) | ((first | apply w9 | apply y8 | apply x8); exact rfl; exact rfl) | (apply w7; first | refine u9 (h := ?_) | refine y9 (h := ?_) | refine w8 (h := ?_) | refine q6 (h := ?_) | refine q0 (h := ?_)) | ((first | apply p3 | apply l0); exact rfl; exact rfl; exact rfl) | (apply j0; exact rfl; exact rfl; exact rfl; (constructor <;> omega)) | (apply q7; first | refine q8 (h := ?_) | refine q9 (h := ?_)) | (apply o9; infer_instance; exact rfl; exact rfl) | (apply m9; refine l9 (h := fun _ => ?_)) | ((first | apply s9 | apply x9 | apply z8 | apply s7 | apply s8 | apply w4 | apply z9 | apply w5)) | ((first | apply w6 | apply z6 | apply z0 | apply p5 | apply y0 | apply z7)))
      all_goals
       rw [← e3] at hO_ ⊢
       refine o0 (k + 1, (ss ++ [((al, (Srt.zf4 E (k : Int)).length, cl) : SD)], (a', cap'), N', M ++ NL), (a_, cp_), N_) ⟨by dsimp only; omega, hO', hS2, hO_⟩ (by dsimp only; omega) ?_ ?_
       · exact fS_
       · dsimp only; simp only [List.append_assoc]; exact hS_
  obtain rfl : k = caps.length := by omega
  repeat' (first | (apply v9; exact rfl; exact dF_) | ((first | apply w9 | apply y8 | apply x8); exact rfl; exact rfl) | ((first | apply p3 | apply l0); exact rfl; exact rfl; exact rfl) | (apply o9; infer_instance; exact rfl; exact rfl) | ((first | apply s9 | apply x9 | apply z8 | apply s7 | apply s8 | apply w4 | apply z9 | apply w5)) | ((first | apply w6 | apply z6 | apply z0 | apply p5 | apply y0 | apply z7)))
  apply j9 (σ := Nat × ((Option Addr × Nat) × List Ent) × ((Option Addr × Nat) × List Ent)) (Fs := fun t => [(12, .int .i64 t.1), (7, ptr b7), (6, ptr b6)])
    (Ls := fun t => ⟨b7, Ce [.slice as_ ss.length cs, .slice aw (swR E caps.length).length cw, .slice t.2.1.1.1 (Srt.kindOf (E.take t.1) 3).length t.2.1.1.2, .slice t.2.2.1.1 (Srt.kindOf (E.take t.1) 4).length t.2.2.1.2, .slice ae E.length ce] 104, true⟩ :: ⟨b6, Ce [.slice none 0 0, .slice none 0 0, .slice none 0 0, .slice none 0 0, .slice none 0 0] 104, true⟩ :: (t.2.1.2 ++ (t.2.2.2 ++ (NE ++ (NSt ++ (M ++ (NW ++ [])))))))
    (I := fun t => t.1 ≤ E.length ∧ OW 3 1 encI (.slice t.2.1.1.1 (Srt.kindOf (E.take t.1) 3).length t.2.1.1.2) (Srt.kindOf (E.take t.1) 3) t.2.1.2 ∧ OW 3 1 encI (.slice t.2.2.1.1 (Srt.kindOf (E.take t.1) 4).length t.2.2.1.2) (Srt.kindOf (E.take t.1) 4) t.2.2.2)
    (μ := fun t => E.length - t.1) (s0 := (0, ((none, 0), []), ((none, 0), [])))
  · exact ⟨Nat.zero_le _, OW.nil, OW.nil⟩
  · exact fS_
  · dsimp only; simp only [List.nil_append]; exact hS_
  rintro ⟨i, ⟨⟨ao, co⟩, NO⟩, ⟨ar, cr⟩, NR⟩ ⟨hi, hO, hR⟩
  dsimp only at hi hO hR ⊢
  have oO := hO.own
  have oR := hR.own
  have hl3 := yd8 (E.take i) 3
  have hl4 := yd8 (E.take i) 4
  rw [List.length_take] at hl3 hl4
  by_cases hli : i < E.length
  · obtain ⟨⟨kd, it, st⟩, hx⟩ : ∃ x, E[i]? = some x := ⟨_, List.getElem?_eq_getElem hli⟩
    obtain ⟨bE, sE, rfl, rfl⟩ := OW.some hE (by omega)
    have gx : ∀ (j : Nat) (u : Value), ([.int .u8 kd, .int .i64 it, .int .i64 st] : List Value)[j]? = some u → (E.flatMap zp1 ++ sE).toArray[0 + i * 3 + j]? = some u := (Pat.flat ze4 E sE).get hx
    have e3 := Srt.zh3 (E.take i) ⟨kd, it, st⟩ 3
    have e4 := Srt.zh3 (E.take i) ⟨kd, it, st⟩ 4
    rw [← take_snoc hx] at e3 e4
    dsimp only at e3 e4
    simp only [List.cons_append, List.nil_append]
    by_cases h3 : kd = 3
    · rw [if_pos h3] at e3
      rw [if_neg (by omega), List.append_nil] at e4
      as_aux_lemma =>
        repeat' (first | (apply v8; exact rfl; exact dT_) | (apply v9; exact rfl; exact dF_) | (apply zc4 (enc := encI) (ys := [(it)]); infer_instance; infer_instance; infer_instance; exact rfl; exact j8; exact zg4; exact rfl; exact rfl; exact rfl; assumption; exact rL_; (exact fun w hw => SV.lit [(it)] j8 hw (by exact aT_) rfl rfl (by decide)); (first | decide | (constructor <;> (try simp only [List.length_cons, List.length_nil]) <;> omega) | (constructor <;> simp <;> omega)); intro a_ cp_ N_ hO_; have oN_ := hO_.own; (try simp only [List.nil_append, List.append_assoc] at hO_); (try simp only [List.append_eq, List.append_assoc, List.cons_append, List.nil_append])) | ((first | apply w9 | apply y8 | apply x8); exact rfl; exact rfl) | (apply za7; exact rfl; exact rfl) | (apply w7; first | refine u9 (h := ?_) | refine y9 (h := ?_) | refine w8 (h := ?_) | refine q6 (h := ?_) | refine q0 (h := ?_)) | ((first | apply p3 | apply l0); exact rfl; exact rfl; exact rfl) | (apply j0; exact rfl; exact rfl; exact rfl; (constructor <;> omega)) | (apply q7; first | refine q8 (h := ?_) | refine q9 (h := ?_)) | (apply o9; infer_instance; exact rfl; exact rfl) | (apply m8; infer_instance; infer_instance; exact rfl; exact rfl; (first | exact rfl | omega); exact rfl; (first | assumption | omega | decide)) | ((first | apply s9 | apply x9 | apply z8 | apply s7 | apply s8 | apply w4 | apply z9 | apply w5)) | ((first | apply w6 | apply z6 | apply z0 | apply p5 | apply y0 | apply z7)) | ((apply zg0 (id := 19) [] 9); kernel_rfl; kernel_rfl; simp only [List.take_succ_cons, List.take_zero, List.drop_succ_cons, List.drop_zero]) | (apply za6; try simp only [za9, List.cons_append, List.nil_append]) | ((first | apply i9 | apply n9 | apply m5); exact rfl; exact rfl) | (apply zb4; exact rfl; exact rfl) | (apply m0; first | refine k8 (h := ?_) | refine p7 (h := ?_) | refine m6 (h := ?_) | refine d8 (h := ?_) | refine d7 (h := ?_)) | (apply zc3; infer_instance; infer_instance; exact rfl; exact rfl; (first | exact rfl | omega); exact rfl; (first | assumption | omega | decide)) | (apply zd9; refine zf0 (h := fun _ => ?_)))
        rw [← e3] at hO_ ⊢
        refine o0 (i + 1, ((a_, cp_), N_), ((ar, cr), NR)) ⟨by dsimp only; omega, hO_, by dsimp only; rw [e4]; exact hR⟩ (by dsimp only; omega) ?_ ?_
        · exact fS_
        · (try dsimp only); rw [e4]; (try simp only [List.cons_append, List.nil_append]); exact hS_
    · rw [if_neg h3, List.append_nil] at e3
      by_cases h4 : kd = 4
      · rw [if_pos h4] at e4
        as_aux_lemma =>
          repeat' (first | (apply v8; exact rfl; exact dT_) | (apply v9; exact rfl; exact dF_) | (apply zc4 (enc := encI) (ys := [(it)]); infer_instance; infer_instance; infer_instance; exact rfl; exact j8; exact zg4; exact rfl; exact rfl; exact rfl; assumption; exact rL_; (exact fun w hw => SV.lit [(it)] j8 hw (by exact aT_) rfl rfl (by decide)); (first | decide | (constructor <;> (try simp only [List.length_cons, List.length_nil]) <;> omega) | (constructor <;> simp <;> omega)); intro a_ cp_ N_ hO_; have oN_ := hO_.own; (try simp only [List.nil_append, List.append_assoc] at hO_); (try simp only [List.append_eq, List.append_assoc, List.cons_append, List.nil_append])) | ((first | apply w9 | apply y8 | apply x8); exact rfl; exact rfl) | (apply za7; exact rfl; exact rfl) | (apply w7; first | refine u9 (h := ?_) | refine y9 (h := ?_) | refine w8 (h := ?_) | refine q6 (h := ?_) | refine q0 (h := ?_)) | ((first | apply p3 | apply l0); exact rfl; exact rfl; exact rfl) | (apply j0; exact rfl; exact rfl; exact rfl; (constructor <;> omega)) | (apply q7; first | refine q8 (h := ?_) | refine q9 (h := ?_)) | (apply o9; infer_instance; exact rfl; exact rfl) | (apply m8; infer_instance; infer_instance; exact rfl; exact rfl; (first | exact rfl | omega); exact rfl; (first | assumption | omega | decide)) | ((first | apply s9 | apply x9 | apply z8 | apply s7 | apply s8 | apply w4 | apply z9 | apply w5)) | ((first | apply w6 | apply z6 | apply z0 | apply p5 | apply y0 | apply z7)) | ((apply zg0 (id := 21) [] 9); kernel_rfl; kernel_rfl; simp only [List.take_succ_cons, List.take_zero, List.drop_succ_cons, List.drop_zero]) | (apply za6; try simp only [za9, List.cons_append, List.nil_append]) | ((first | apply i9 | apply n9 | apply m5); exact rfl; exact rfl) | (apply zb4; exact rfl; exact rfl) | (apply m0; first | refine k8 (h := ?_) | refine p7 (h := ?_) | refine m6 (h := ?_) | refine d8 (h := ?_) | refine d7 (h := ?_)) | (apply zc3; infer_instance; infer_instance; exact rfl; exact rfl; (first | exact rfl | omega); exact rfl; (first | assumption | omega | decide)) | (apply zd9; refine zf0 (h := fun _ => ?_)))
          rw [← e4] at hO_ ⊢
          refine o0 (i + 1, ((ao, co), NO), ((a_, cp_), N_)) ⟨by dsimp only; omega, by dsimp only; rw [e3]; exact hO, hO_⟩ (by dsimp only; omega) ?_ ?_
          · exact fS_
          · (try dsimp only); rw [e3]; (try simp only [List.cons_append, List.nil_append]); exact hS_
      · rw [if_neg h4, List.append_nil] at e4
        as_aux_lemma =>
          repeat' (first | (apply v8; exact rfl; exact dT_) | (apply v9; exact rfl; exact dF_) | ((first | apply w9 | apply y8 | apply x8); exact rfl; exact rfl) | (apply za7; exact rfl; exact rfl) | (apply w7; first | refine u9 (h := ?_) | refine y9 (h := ?_) | refine w8 (h := ?_) | refine q6 (h := ?_) | refine q0 (h := ?_)) | ((first | apply p3 | apply l0); exact rfl; exact rfl; exact rfl) | (apply j0; exact rfl; exact rfl; exact rfl; (constructor <;> omega)) | (apply o9; infer_instance; exact rfl; exact rfl) | (apply m8; infer_instance; infer_instance; exact rfl; exact rfl; (first | exact rfl | omega); exact rfl; (first | assumption | omega | decide)) | ((first | apply s9 | apply x9 | apply z8 | apply s7 | apply s8 | apply w4 | apply z9 | apply w5)) | ((first | apply w6 | apply z6 | apply z0 | apply p5 | apply y0 | apply z7)))
          refine o0 (i + 1, ((ao, co), NO), ((ar, cr), NR)) ⟨by dsimp only; omega, by dsimp only; rw [e3]; exact hO, by dsimp only; rw [e4]; exact hR⟩ (by dsimp only; omega) ?_ ?_
          · exact fS_
          · (try dsimp only); rw [e3, e4]; (try simp only [List.cons_append, List.nil_append]); exact hS_
  obtain rfl : i = E.length := by omega
  rw [List.take_length] at hO hR ⊢
  repeat' (first | (apply v9; exact rfl; exact dF_) | ((first | apply w9 | apply y8 | apply x8); exact rfl; exact rfl) | (apply w7; first | refine u9 (h := ?_) | refine y9 (h := ?_) | refine w8 (h := ?_) | refine q6 (h := ?_) | refine q0 (h := ?_)) | ((first | apply p3 | apply l0); exact rfl; exact rfl; exact rfl) | (apply q7; first | refine q8 (h := ?_) | refine q9 (h := ?_)) | (apply o9; infer_instance; exact rfl; exact rfl) | ((first | apply s9 | apply x9 | apply z8 | apply s7 | apply s8 | apply w4 | apply z9 | apply w5)) | ((first | apply w6 | apply z6 | apply z0 | apply p5 | apply y0 | apply z7)))
  apply p8; apply zb0 Try.results47; exact rV_; intro w' hw
  have hX : passX (Srt.yp0 caps.length E) (.agg #[.slice as_ ss.length cs, .slice aw (swR E caps.length).length cw, .slice ao (Srt.kindOf E 3).length co, .slice ar (Srt.kindOf E 4).length cr, .slice ae E.length ce]) (NSt ++ (M ++ (NW ++ (NO ++ (NR ++ NE))))) := by
    have e1 : (Srt.yp0 caps.length E).stackers.length = ss.length := by rw [hsl]; exact yo9 E caps.length
    refine ⟨as_, cs, aw, cw, ao, co, ar, cr, ae, ce, ss, NSt, M, NW, NO, NR, NE, ?_, ?_, hM, hW, hO, hR, hE, rfl⟩
    · rw [e1]; rfl
    · rw [e1]; exact hS
  exact ⟨_, _, rfl, hX, hw.sub (by exact hS_), hX.own⟩
theorem yA0 {cv fv : Value} {caps : List Int} {s : Int} {l : List Srt.Fd} (hc : Srt.zo3 caps) (hf : Srt.zp0 caps.length l = 0) (hs : 0 ≤ s ∧ s ≤ 1000) (w : World) (h : SV w 1 encI cv caps) (hl : SV w 2 zo0 fv l) :
    Calls Try.prog 47 #[cv, .int .i64 s, fv] w fun e w' => ∃ v N, e = .returned v ∧ passX (Srt.za2 caps s l) v N ∧ Rep w w' N ∧ ∀ x ∈ N, x.own = true := by
  have hlen : l.length ≤ 2000 := by
    unfold Srt.zp0 at hf
    split at hf
    · cases hf
    · omega
  have hst : ∀ f ∈ l, -1 ≤ f.st ∧ f.st < caps.length := fun f hm => by
    unfold Srt.zp0 at hf
    split at hf
    · cases hf
    · split at hf
      · cases hf
      · rename_i h2
        exact (Srt.ym9 (by simpa using h2) f hm).2
  exact (yi0 w h hl hc.1.2 hs hlen hst).mono fun e w' ⟨v, N, h1, h2, h3, h4⟩ => ⟨v, N, h1, h2.same (Srt.yt3 (fun c hm => (hc.2 c hm).1) hs.1 hst), h3, h4⟩
end Go.Proofs.Ytdahckhlfldkkaa
namespace Go.Proofs.Ytdahckhlfldkkaa
open Go Go.Sx Go.RowKit
attribute [local irreducible] WL WC WQ WR WB WF QB St Exit.then Exit.inBlock Exit.noGoto bodyPost roundPost zc1 YR RG BM Calls B zc7 ze3
theorem zJ3 {v : Value} {caps : List Int} {b : Bool} (hb : B (Srt.zo3 caps) = b) (w : World) (h : SV w 1 encI v caps) : Calls Try.prog 45 #[v] w fun e w' => e = .returned (.bool b) ∧ Below w.heap.size w w' := by
  subst hb; exact yh9 w h
theorem yp3 {cv fv : Value} {caps : List Int} {l : List Srt.Fd} {k : Int} (hk : Srt.zp0 caps.length l = k) (w : World) (h : SV w 1 encI cv caps) (hl : SV w 2 zo0 fv l) : Calls Try.prog 46 #[cv, fv] w fun e w' => e = .returned (.int .i64 k) ∧ Below w.heap.size w w' := by
  subst hk; exact ym3 w h hl
def yL8 (m : Srt.M) (k : Int) (v : Value) (N : List Ent) : Prop := ∃ a1 n1 c1 a2 n2 c2 a3 n3 c3 a4 n4 c4 a5 n5 c5, v = .tuple #[.agg #[.slice a1 n1 c1, .slice a2 n2 c2, .slice a3 n3 c3, .slice a4 n4 c4, .slice a5 n5 c5], .int .i64 k] ∧ passX m (.agg #[.slice a1 n1 c1, .slice a2 n2 c2, .slice a3 n3 c3, .slice a4 n4 c4, .slice a5 n5 c5]) N
set_option maxHeartbeats 4000000 in
theorem ym4 {cv fv : Value} {caps : List Int} {s : Int} {l : List Srt.Fd} (w : World) (h : SV w 1 encI cv caps) (hl : SV w 2 zo0 fv l) :
    Calls Try.prog 31 #[cv, .int .i64 s, fv] w fun e w' => ∃ v N, e = .returned v ∧ yL8 (Srt.zd0 caps s l).1 (Srt.zd0 caps s l).2 v N ∧ Rep w w' N ∧ ∀ x ∈ N, x.own = true := by
  have hnew : passX (Srt.M.new 0 0) (.agg #[.slice none 0 0, .slice none 0 0, .slice none 0 0, .slice none 0 0, .slice none 0 0]) [] := passX.zero
  by_cases hc : Srt.zo3 caps
  case neg =>
    have e0 : Srt.zd0 caps s l = (Srt.M.new 0 0, 290) := by unfold Srt.zd0; rw [if_pos hc]
    rw [e0]
    refine zd8 Try.func31 rfl Try.ntmps31 rfl (Rep.start w) ?_
    repeat' (first | ((first | ((apply t8 (f := 45)); exact rfl) | ((apply t9 (f := 45)); exact rfl; kernel_rfl; exact rfl; exact sJ_)); exact eV_; exact (fun w hw => zJ3 (zc2 hc) w (h.keep hw (by exact aO_)))) | ((first | apply w9 | apply y8 | apply p4); exact rfl; exact rfl) | (apply zd5; exact rfl; exact rfl) | (apply o7; exact rfl; intro _) | (apply q7; first | refine q8 (h := ?_) | refine q9 (h := ?_)) | (apply g7; first | refine a8 (h := ?_)) | ((first | apply s9 | apply x9 | apply z8 | apply s7 | apply s8 | apply w4 | apply z9 | apply w5)) | (apply v8; exact rfl; exact tT_) | ((first | apply w6 | apply z6 | apply z0 | apply p5 | apply y0 | apply z7)))
    apply p8; apply zf9 Try.results31; exact rV_; exact rV_; intro w' hw
    exact ⟨_, [], rfl, ⟨_, _, _, _, _, _, _, _, _, _, _, _, _, _, _, rfl, hnew⟩, hw.sub (by exact hS_), by simp⟩
  by_cases hs0 : s < 0 ∨ 1000 < s
  · have e0 : Srt.zd0 caps s l = (Srt.M.new 0 0, 2) := by unfold Srt.zd0; rw [if_neg (fun g => g hc), if_pos hs0]
    rw [e0]
    refine zd8 Try.func31 rfl Try.ntmps31 rfl (Rep.start w) ?_
    repeat' (first | (apply v8; exact rfl; exact dT_) | (apply n8; exact rfl; exact dT_; exact rfl; exact rfl) | (apply p9; exact rfl; exact dF_; exact rfl; exact rfl) | (apply k9; exact rfl; exact dF_) | (apply za5; exact rfl; exact dT_; exact rfl) | ((first | ((apply t8 (f := 45)); exact rfl) | ((apply t9 (f := 45)); exact rfl; kernel_rfl; exact rfl; exact sJ_)); exact eV_; exact (fun w hw => zJ3 (zj0 hc) w (h.keep hw (by exact aO_)))) | ((first | apply w9 | apply y8 | apply p4); exact rfl; exact rfl) | ((first | apply p3 | apply o8 | apply l8); exact rfl; exact rfl; exact rfl) | (apply zd5; exact rfl; exact rfl) | (apply o7; exact rfl; intro _) | (apply q7; first | refine q8 (h := ?_) | refine q9 (h := ?_)) | (apply g7; first | refine a8 (h := ?_)) | ((first | apply s9 | apply x9 | apply z8 | apply s7 | apply s8 | apply w4 | apply z9 | apply w5)) | (apply v8; exact rfl; exact tT_) | (apply v9; exact rfl; exact fF_) | ((first | apply w6 | apply z6 | apply z0 | apply p5 | apply y0 | apply z7)) | (apply zd3; exact rfl; intro hcond; rotate_left; intro hcond; rotate_left))
    all_goals first
      | (exfalso; omega)
      | (apply p8; apply zf9 Try.results31; exact rV_; exact rV_; intro w' hw; exact ⟨_, [], rfl, ⟨_, _, _, _, _, _, _, _, _, _, _, _, _, _, _, rfl, hnew⟩, hw.sub (by exact hS_), by simp⟩)
  by_cases hf : Srt.zp0 caps.length l = 0
  · have e0 : Srt.zd0 caps s l = (Srt.za2 caps s l, 0) := by unfold Srt.zd0; rw [if_neg (fun g => g hc), if_neg hs0, if_neg (fun g => g hf)]
    rw [e0]
    have hpl : ∀ (w : World) (cv fv : Value), SV w 1 encI cv caps → SV w 2 zo0 fv l → Calls Try.prog 47 #[cv, .int .i64 s, fv] w fun e w' => ∃ v N, e = .returned v ∧ (∃ a1 n1 c1 a2 n2 c2 a3 n3 c3 a4 n4 c4 a5 n5 c5, v = .agg #[.slice a1 n1 c1, .slice a2 n2 c2, .slice a3 n3 c3, .slice a4 n4 c4, .slice a5 n5 c5] ∧ passX (Srt.za2 caps s l) v N) ∧ Rep w w' N ∧ ∀ x ∈ N, x.own = true := fun w cv fv g1 g2 =>
      (yA0 hc hf ⟨by omega, by omega⟩ w g1 g2).mono fun e w' ⟨v, N, h1, h2, h3, h4⟩ => ⟨v, N, h1, by
        have h2' := h2
        obtain ⟨a1, c1, a2, c2, a3, c3, a4, c4, a5, c5, ss, N1, M1, N2, N3, N4, N5, e, _⟩ := h2
        exact ⟨a1, _, c1, a2, _, c2, a3, _, c3, a4, _, c4, a5, _, c5, e, h2'⟩, h3, h4⟩
    refine zd8 Try.func31 rfl Try.ntmps31 rfl (Rep.start w) ?_
    repeat' (first | (apply v9; exact rfl; exact dF_) | (apply p9; exact rfl; exact dF_; exact rfl; exact rfl) | (apply k9; exact rfl; exact dF_) | ((first | ((apply t8 (f := 45)); exact rfl) | ((apply t9 (f := 45)); exact rfl; kernel_rfl; exact rfl; exact sJ_)); exact eV_; exact (fun w hw => zJ3 (zj0 hc) w (h.keep hw (by exact aO_)))) | ((first | ((apply t8 (f := 46)); exact rfl) | ((apply t9 (f := 46)); exact rfl; kernel_rfl; exact rfl; exact sJ_)); exact eV_; exact (fun w hw => yp3 hf w (h.keep hw (by exact aO_)) (hl.keep hw (by exact aO_)))) | ((first | ((apply f5 (f := 47)); exact rfl) | ((apply d6 (f := 47)); exact rfl; exact rfl; exact sJ_)); exact eV_; exact (fun w hw => hpl w _ _ (h.keep hw (by exact aO_)) (hl.keep hw (by exact aO_))); rintro v N ⟨a1, n1, c1, a2, n2, c2, a3, n3, c3, a4, n4, c4, a5, n5, c5, rfl, hX⟩ <;> (try simp only [List.cons_append, List.nil_append, List.append_assoc])) | ((first | apply w9 | apply y8 | apply p4); exact rfl; exact rfl) | ((first | apply p3 | apply o8 | apply l8); exact rfl; exact rfl; exact rfl) | (apply zd5; exact rfl; exact rfl) | (apply o7; exact rfl; intro _) | (apply q7; first | refine q8 (h := ?_) | refine q9 (h := ?_)) | ((first | apply s9 | apply x9 | apply z8 | apply s7 | apply s8 | apply w4 | apply z9 | apply w5)) | (apply v9; exact rfl; exact fF_) | ((first | apply w6 | apply z6 | apply z0 | apply p5 | apply y0 | apply z7)))
    apply p8; apply zf9 Try.results31; exact rV_; exact rV_; intro w' hw
    exact ⟨_, _, rfl, ⟨_, _, _, _, _, _, _, _, _, _, _, _, _, _, _, rfl, hX⟩, hw.sub (by exact hS_), hX.own⟩
  · obtain ⟨k, hk⟩ : ∃ k, Srt.zp0 caps.length l = k := ⟨_, rfl⟩
    have e0 : Srt.zd0 caps s l = (Srt.M.new 0 0, k) := by unfold Srt.zd0; rw [if_neg (fun g => g hc), if_neg hs0, if_pos hf, hk]
    rw [e0]
    rw [hk] at hf
    refine zd8 Try.func31 rfl Try.ntmps31 rfl (Rep.start w) ?_
    repeat' (first | (apply v8; exact rfl; exact dT_) | (apply v9; exact rfl; exact dF_) | (apply p9; exact rfl; exact dF_; exact rfl; exact rfl) | (apply k9; exact rfl; exact dF_) | ((first | ((apply t8 (f := 45)); exact rfl) | ((apply t9 (f := 45)); exact rfl; kernel_rfl; exact rfl; exact sJ_)); exact eV_; exact (fun w hw => zJ3 (zj0 hc) w (h.keep hw (by exact aO_)))) | ((first | ((apply t8 (f := 46)); exact rfl) | ((apply t9 (f := 46)); exact rfl; kernel_rfl; exact rfl; exact sJ_)); exact eV_; exact (fun w hw => yp3 hk w (h.keep hw (by exact aO_)) (hl.keep hw (by exact aO_)))) | ((first | apply w9 | apply y8 | apply p4); exact rfl; exact rfl) | ((first | apply p3 | apply o8 | apply l8); exact rfl; exact rfl; exact rfl) | (apply zd5; exact rfl; exact rfl) | (apply o7; exact rfl; intro _) | (apply q7; first | refine q8 (h := ?_) | refine q9 (h := ?_)) | (apply g7; first | refine a8 (h := ?_)) | ((first | apply s9 | apply x9 | apply z8 | apply s7 | apply s8 | apply w4 | apply z9 | apply w5)) | (apply v9; exact rfl; exact fF_) | ((first | apply w6 | apply z6 | apply z0 | apply p5 | apply y0 | apply z7)))
    apply p8; apply zf9 Try.results31; exact rV_; exact rV_; intro w' hw
    exact ⟨_, [], rfl, ⟨_, _, _, _, _, _, _, _, _, _, _, _, _, _, _, rfl, hnew⟩, hw.sub (by exact hS_), by simp⟩
end Go.Proofs.Ytdahckhlfldkkaa
