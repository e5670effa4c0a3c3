/- A part of the proofs of this seat: a small logic of walks, plain laws, and what some of the program's functions compute, shown by walks through their code. Conditions: the hypotheses that each theorem names. -/
import Derived.Test.YtdahckhlfldkkaaZPSmall3
import Derived.Test.YtdahckhlfldkkaaZPSmall7
import Derived.Test.YtdahckhlfldkkaaZPSmall4
set_option linter.unusedSimpArgs false
set_option linter.unusedVariables false
set_option linter.unusedSectionVars false
namespace Go.Sx.Plt
def zn4 (x : Int) : List Int → Option Nat
  | [] => none
  | a :: r => if a = x then some 0 else (zn4 x r).map (· + 1)
theorem zs4 {x : Int} : ∀ {l : List Int}, zn4 x l = none ↔ x ∉ l
  | [] => by simp [zn4]
  | a :: r => by
    rw [zn4]
    by_cases h : a = x
    · simp [h]
    · have h' : ¬ x = a := fun e => h e.symm
      simp [h, h', zs4 (l := r)]
theorem zN9 {x : Int} : ∀ {l : List Int} {i : Nat}, (∀ j, j < i → l[j]? ≠ some x) → l[i]? = some x → zn4 x l = some i
  | [], i, _, h => by simp at h
  | a :: r, 0, _, h => by simp at h; simp [zn4, h]
  | a :: r, i + 1, hn, h => by
    have h0 : a ≠ x := fun e => hn 0 (by omega) (by simp [e])
    rw [zn4, if_neg h0, zN9 (i := i) (fun j hj => by have := hn (j + 1) (by omega); simpa using this) (by simpa using h)]; rfl
theorem zp3 {x : Int} : ∀ {l : List Int} {i : Nat}, zn4 x l = some i → l[i]? = some x ∧ ∀ j, j < i → l[j]? ≠ some x
  | [], i, h => by simp [zn4] at h
  | a :: r, i, h => by
    rw [zn4] at h
    by_cases e : a = x
    · rw [if_pos e] at h; cases h; exact ⟨by simp [e], fun j hj => by omega⟩
    · rw [if_neg e] at h
      cases hr : zn4 x r with
      | none => rw [hr] at h; cases h
      | some k =>
        rw [hr] at h
        simp at h
        subst h
        obtain ⟨h1, h2⟩ := zp3 hr
        refine ⟨by simpa using h1, fun j hj => ?_⟩
        cases j with
        | zero => simp [e]
        | succ j => simpa using h2 j (by omega)
def zu3 (x : Int) (l : List Int) : Int := match zn4 x l with | none => -1 | some i => i
def zN6 (x : Int) : Nat → List (List Int) → Option Nat
  | _, [] => none
  | k, l :: r => if x ∈ l then some k else zN6 x (k + 1) r
def zp5 (r : Run) (x : Int) : Int × Int × Int :=
  match zN6 x 0 r.res.stackers with
  | some k => (2, r.pass, k)
  | none => if x ∈ r.res.over then (3, r.pass, 0) else (4, r.pass, 0)
def zg3 : List (Int × Int) → Int → Option Int
  | [], _ => none
  | s :: r, n => if n < s.2 - s.1 then some (s.1 + n) else zg3 r (n - (s.2 - s.1))
def zn1 (r : Run) (x rate t : Int) : Bool := match zn4 x r.items with
  | none => false
  | some i => match zg3 r.slices ((i : Int) / rate) with
    | none => false
    | some m => decide (m < t)
end Go.Sx.Plt
namespace Go.Sx
open Go Go.RowKit
section
variable {r : Option Nat} {P : Program} {n : Nat} {D : List Deferred} {w0 : World} {F : List (Nat × Value)} {L L' : List Ent} {Q : Exit → Act → World → Prop} {ops : Array Oper}
variable {d : Tmp} {ty : TypeId} {pos : String} {af : Array Edge} {rest : List Oper}
end
end Go.Sx
namespace Go.Proofs.Ytdahckhlfldkkaa
open Go Go.Sx Go.RowKit
attribute [local irreducible] WL WC WQ WR WB WF QB St Exit.then Exit.inBlock Exit.noGoto bodyPost roundPost zc1 YR RG BM Calls B zc7 ze3
theorem zM2 {v : Value} {l : List Int} (x : Int) (w : World) (h : SV w 1 encI v l) : Calls Try.prog 42 #[v, .int .i64 x] w fun e w' => e = .returned (.int .i64 (Plt.zu3 x l)) ∧ Below w.heap.size w w' := by
  obtain ⟨a0, c0, rfl, hc, hop⟩ := h.open
  refine za8 Try.func42 rfl Try.ntmps42 rfl (Rep.start w) ?_
  repeat' (first | ((first | apply w9 | apply y8); exact rfl; exact rfl) | (apply o9; infer_instance; exact rfl; exact rfl) | ((first | apply s9 | apply x9 | apply z8 | apply s7 | apply s8 | apply w4 | apply z9 | apply w5)) | ((first | apply w6 | apply z6 | apply z0 | apply p5 | apply y0 | apply z7)))
  apply j9 (σ := Nat) (Fs := fun i => [(8, .int .i64 i), (7, .int .i64 l.length), (0, .slice a0 l.length c0), (1, .int .i64 x)]) (Ls := fun i => []) (I := fun i => i ≤ l.length ∧ ∀ j, j < i → l[j]? ≠ some x) (μ := fun i => l.length - i) (s0 := 0)
  · exact ⟨Nat.zero_le _, fun j hj => by omega⟩
  · exact fS_
  · exact hS_
  rintro i ⟨hi, hno⟩
  by_cases hlt : i < l.length
  · obtain ⟨y, hx⟩ : ∃ y, l[i]? = some y := ⟨_, List.getElem?_eq_getElem hlt⟩
    obtain ⟨b, off, cc, e, fz, rfl, hk, hp⟩ := hop (by omega)
    have g1 := hp.one hx rfl
    by_cases hxy : x = y
    · subst hxy
      have e1 : Plt.zu3 x l = (i : Int) := by unfold Plt.zu3; rw [Plt.zN9 hno hx]
      rw [e1]
      as_aux_lemma =>
        repeat' (first | (apply v8; exact rfl; exact dT_) | ((first | apply w9 | apply y8); exact rfl; exact rfl) | (apply w7; first | refine u9 (h := ?_) | refine y9 (h := ?_) | refine w8 (h := ?_) | refine q6 (h := ?_) | refine q0 (h := ?_)) | ((first | apply p3 | apply l0); exact rfl; exact rfl; exact rfl) | (apply m8; infer_instance; infer_instance; exact rfl; exact rfl; (first | exact rfl | omega); exact rfl; (first | assumption | omega | decide)) | ((first | apply s9 | apply x9 | apply z8 | apply s7 | apply s8 | apply w4 | apply z9 | apply w5)) | ((first | apply w6 | apply z6 | apply z0 | apply p5 | apply y0 | apply z7)))
        apply p8; apply zb0 Try.results42; exact rV_; intro w' hw
        exact ⟨rfl, hw.below (by simp)⟩
    · have hno2 : ∀ j, j < i + 1 → l[j]? ≠ some x := fun j hj => by
        by_cases hji : j = i
        · subst hji; rw [hx]; intro e; cases e; exact hxy rfl
        · exact hno j (by omega)
      as_aux_lemma =>
        repeat' (first | (apply v8; exact rfl; exact dT_) | (apply v9; exact rfl; exact dF_) | ((first | apply w9 | apply y8); exact rfl; exact rfl) | (apply w7; first | refine u9 (h := ?_) | refine y9 (h := ?_) | refine w8 (h := ?_) | refine q6 (h := ?_) | refine q0 (h := ?_)) | ((first | apply p3 | apply l0); exact rfl; exact rfl; exact rfl) | (apply j0; exact rfl; exact rfl; exact rfl; (constructor <;> omega)) | (apply m8; infer_instance; infer_instance; exact rfl; exact rfl; (first | exact rfl | omega); exact rfl; (first | assumption | omega | decide)) | ((first | apply s9 | apply x9 | apply z8 | apply s7 | apply s8 | apply w4 | apply z9 | apply w5)) | ((first | apply w6 | apply z6 | apply z0 | apply p5 | apply y0 | apply z7)))
        refine o0 (i + 1) ⟨by omega, hno2⟩ (by omega) ?_ ?_
        · exact fS_
        · exact hS_
  obtain rfl : i = l.length := by omega
  have e1 : Plt.zu3 x l = -1 := by
    unfold Plt.zu3
    rw [Plt.zs4.2 (fun hm => by obtain ⟨j, hj⟩ := List.getElem?_of_mem hm; exact hno j (List.getElem?_eq_some_iff.1 hj).1 hj)]
  rw [e1]
  repeat' (first | (apply v9; exact rfl; exact dF_) | ((first | apply w9 | apply y8); exact rfl; exact rfl) | ((first | apply p3 | apply l0); exact rfl; exact rfl; exact rfl) | ((first | apply s9 | apply x9 | apply z8 | apply s7 | apply s8 | apply w4 | apply z9 | apply w5)) | ((first | apply w6 | apply z6 | apply z0 | apply p5 | apply y0 | apply z7)))
  apply p8; apply zb0 Try.results42; exact rV_; intro w' hw
  exact ⟨rfl, hw.below (by simp)⟩
theorem zP2 {v : Value} {l : List Int} (x : Int) (w : World) (h : SV w 1 encI v l) : Calls Try.prog 44 #[v, .int .i64 x] w fun e w' => e = .returned (.bool (decide (x ∈ l))) ∧ Below w.heap.size w w' := by
  have hd : decide (x ∈ l) = decide (Plt.zu3 x l ≥ 0) := by
    unfold Plt.zu3
    cases hx : Plt.zn4 x l with
    | none => rw [decide_eq_false (Plt.zs4.1 hx)]; rfl
    | some i =>
      have := (Plt.zp3 hx).1
      rw [decide_eq_true (List.mem_of_getElem? this)]
      simp
  rw [hd]
  refine za8 Try.func44 rfl Try.ntmps44 rfl (Rep.start w) ?_
  repeat' (first | ((first | ((apply t8 (f := 42)); exact rfl) | ((apply t9 (f := 42)); exact rfl; kernel_rfl; exact rfl; exact sJ_)); exact eV_; exact (fun w hw => zM2 x w (h.keep hw (by exact aO_)))) | ((first | apply w9 | apply y8); exact rfl; exact rfl) | (apply d9; exact rfl; exact rfl; exact rfl) | ((first | apply s9 | apply x9 | apply z8 | apply s7 | apply s8 | apply w4 | apply z9 | apply w5)) | ((first | apply w6 | apply z6 | apply z0 | apply p5 | apply y0 | apply z7)))
  apply p8; apply zb0 Try.results44; exact rV_; intro w' hw
  exact ⟨rfl, hw.below (by simp)⟩
theorem zu4 {v : Value} {l : List Int} {x : Int} {b : Bool} (hb : decide (x ∈ l) = b) (w : World) (h : SV w 1 encI v l) : Calls Try.prog 44 #[v, .int .i64 x] w fun e w' => e = .returned (.bool b) ∧ Below w.heap.size w w' := by
  subst hb; exact zP2 x w h
set_option maxHeartbeats 4000000 in
theorem ye6 {d : RD} {r : Plt.Run} {x : Int} {kd ps nu : Int} (he : Plt.zp5 r x = (kd, ps, nu)) (w : World) (h : RunV w d r) : Calls Try.prog 30 #[zA5 d, .int .i64 x] w fun e w' => e = .returned (.agg #[.int .u8 kd, .int .i64 ps, .int .i64 nu]) ∧ Below w.heap.size w w' := by
  obtain ⟨hp, -, -, hI, hS, ⟨ss, h1, h2⟩, hO, hR⟩ := h
  obtain ⟨dp, ds, df, ⟨a1, n1, c1⟩, ⟨a2, n2, c2⟩, ⟨a3, n3, c3⟩, ⟨a4, n4, c4⟩, ⟨a5, n5, c5⟩, ⟨a6, n6, c6⟩, ⟨a7, n7, c7⟩⟩ := d
  unfold zA5
  dsimp only [sdV] at hp hI hS h1 hO hR ⊢
  subst hp
  obtain ⟨_, _, e1, hc1, hop1⟩ := h1.open
  cases e1
  have hsl := h2.1
  unfold Plt.zp5 at he
  refine za8 Try.func30 rfl Try.ntmps30 rfl (Rep.start w) ?_
  repeat' (first | ((first | apply w9 | apply y8 | apply x8); exact rfl; exact rfl) | (apply za7; exact rfl; exact rfl) | (apply w7; first | refine u9 (h := ?_) | refine y9 (h := ?_) | refine w8 (h := ?_) | refine q6 (h := ?_) | refine q0 (h := ?_)) | (apply o7; exact rfl; intro _) | (apply zc5; exact rfl; exact rfl; exact rfl; intro _) | (apply o9; infer_instance; exact rfl; exact rfl) | ((first | apply s9 | apply x9 | apply z8 | apply s7 | apply s8 | apply w4 | apply z9 | apply w5)) | ((first | apply w6 | apply z6 | apply z0 | apply p5 | apply y0 | apply z7)))
  rename_i b2 b4
  apply j9 (σ := Nat) (Fs := fun i => [(11, .int .i64 i), (10, .int .i64 ss.length), (9, .slice a3 ss.length c3), (4, ptr b4), (2, ptr b2), (1, .int .i64 x)])
    (Ls := fun i => [⟨b4, Ce [.int .u8 0, .int .i64 0, .int .i64 0] 38, true⟩, ⟨b2, Ce [.int .i64 r.pass, .int .i64 ds, .int .i64 df, .slice a1 n1 c1, .slice a2 n2 c2, .slice a3 ss.length c3, .slice a4 n4 c4, .slice a5 n5 c5, .slice a6 n6 c6, .slice a7 n7 c7] 74, true⟩])
    (I := fun i => i ≤ ss.length ∧ Plt.zN6 x 0 r.res.stackers = Plt.zN6 x i (r.res.stackers.drop i)) (μ := fun i => ss.length - i) (s0 := 0)
  · exact ⟨Nat.zero_le _, rfl⟩
  · exact fS_
  · exact hS_
  rintro i ⟨hi, hst⟩
  by_cases hlt : i < ss.length
  · obtain ⟨⟨sa, sn, sc⟩, hx⟩ : ∃ s, ss[i]? = some s := ⟨_, List.getElem?_eq_getElem hlt⟩
    obtain ⟨l, hy⟩ : ∃ l, r.res.stackers[i]? = some l := ⟨_, List.getElem?_eq_getElem (by omega)⟩
    have hsv := h2.2 i _ _ hx hy
    dsimp only [sdV] at hsv
    obtain ⟨b, off, cc, e, fz, rfl, hk, hpt⟩ := hop1 (by omega)
    have g1 : cc[off + i * 1]? = some (.slice sa sn sc) := hpt.one hx rfl
    rw [drop_at hy, Plt.zN6] at hst
    cases hb : decide (x ∈ l) with
    | true =>
      rw [if_pos (of_decide_eq_true hb)] at hst
      rw [hst] at he
      cases he
      as_aux_lemma =>
        repeat' (first | (apply v8; exact rfl; exact dT_) | ((first | ((apply t8 (f := 44)); exact rfl) | ((apply t9 (f := 44)); exact rfl; kernel_rfl; exact rfl; exact sJ_)); exact eV_; exact (fun w hw => zu4 hb w (hsv.keep hw (by exact aO_)))) | ((first | apply w9 | apply y8 | apply x8); exact rfl; exact rfl) | (apply w7; first | refine u9 (h := ?_) | refine y9 (h := ?_) | refine w8 (h := ?_) | refine q6 (h := ?_) | refine q0 (h := ?_)) | (apply p3; exact rfl; exact rfl; exact rfl) | (apply q7; first | refine q8 (h := ?_) | refine q9 (h := ?_)) | (apply g7; first | refine a8 (h := ?_)) | (apply m8; infer_instance; infer_instance; exact rfl; exact rfl; (first | exact rfl | omega); exact rfl; (first | assumption | omega | decide)) | ((first | apply s9 | apply x9 | apply z8 | apply s7 | apply s8 | apply w4 | apply z9 | apply w5)) | (apply v8; exact rfl; exact tT_) | ((first | apply w6 | apply z6 | apply z0 | apply p5 | apply y0 | apply z7)))
        apply p8; apply zb0 Try.results30; exact rV_; intro w' hw
        exact ⟨rfl, hw.below (by simp)⟩
    | false =>
      rw [if_neg (of_decide_eq_false hb)] at hst
      as_aux_lemma =>
        repeat' (first | (apply v8; exact rfl; exact dT_) | ((first | ((apply t8 (f := 44)); exact rfl) | ((apply t9 (f := 44)); exact rfl; kernel_rfl; exact rfl; exact sJ_)); exact eV_; exact (fun w hw => zu4 hb w (hsv.keep hw (by exact aO_)))) | ((first | apply w9 | apply y8 | apply x8); exact rfl; exact rfl) | (apply w7; first | refine u9 (h := ?_) | refine y9 (h := ?_) | refine w8 (h := ?_) | refine q6 (h := ?_) | refine q0 (h := ?_)) | (apply p3; exact rfl; exact rfl; exact rfl) | (apply j0; exact rfl; exact rfl; exact rfl; (constructor <;> omega)) | (apply m8; infer_instance; infer_instance; exact rfl; exact rfl; (first | exact rfl | omega); exact rfl; (first | assumption | omega | decide)) | ((first | apply s9 | apply x9 | apply z8 | apply s7 | apply s8 | apply w4 | apply z9 | apply w5)) | (apply v9; exact rfl; exact fF_) | ((first | apply w6 | apply z6 | apply z0 | apply p5 | apply y0 | apply z7)))
        refine o0 (i + 1) ⟨by omega, hst⟩ (by omega) ?_ ?_
        · exact fS_
        · exact hS_
  obtain rfl : i = ss.length := by omega
  rw [hsl, List.drop_length, Plt.zN6] at hst
  rw [hst] at he
  dsimp only at he
  cases hb : decide (x ∈ r.res.over) with
  | true =>
    rw [if_pos (of_decide_eq_true hb)] at he
    cases he
    as_aux_lemma =>
      repeat' (first | (apply v9; exact rfl; exact dF_) | ((first | ((apply t8 (f := 44)); exact rfl) | ((apply t9 (f := 44)); exact rfl; kernel_rfl; exact rfl; exact sJ_)); exact eV_; exact (fun w hw => zu4 hb w (hO.keep hw (by exact aO_)))) | ((first | apply w9 | apply y8 | apply x8); exact rfl; exact rfl) | (apply za7; exact rfl; exact rfl) | (apply w7; first | refine u9 (h := ?_) | refine y9 (h := ?_) | refine w8 (h := ?_) | refine q6 (h := ?_) | refine q0 (h := ?_)) | (apply p3; exact rfl; exact rfl; exact rfl) | (apply q7; first | refine q8 (h := ?_) | refine q9 (h := ?_)) | (apply g7; first | refine a8 (h := ?_)) | ((first | apply s9 | apply x9 | apply z8 | apply s7 | apply s8 | apply w4 | apply z9 | apply w5)) | (apply v8; exact rfl; exact tT_) | ((first | apply w6 | apply z6 | apply z0 | apply p5 | apply y0 | apply z7)))
      apply p8; apply zb0 Try.results30; exact rV_; intro w' hw
      exact ⟨rfl, hw.below (by simp)⟩
  | false =>
    rw [if_neg (of_decide_eq_false hb)] at he
    cases he
    as_aux_lemma =>
      repeat' (first | (apply v9; exact rfl; exact dF_) | ((first | ((apply t8 (f := 44)); exact rfl) | ((apply t9 (f := 44)); exact rfl; kernel_rfl; exact rfl; exact sJ_)); exact eV_; exact (fun w hw => zu4 hb w (hO.keep hw (by exact aO_)))) | ((first | apply w9 | apply y8 | apply x8); exact rfl; exact rfl) | (apply za7; exact rfl; exact rfl) | (apply w7; first | refine u9 (h := ?_) | refine y9 (h := ?_) | refine w8 (h := ?_) | refine q6 (h := ?_) | refine q0 (h := ?_)) | (apply p3; exact rfl; exact rfl; exact rfl) | (apply q7; first | refine q8 (h := ?_) | refine q9 (h := ?_)) | (apply g7; first | refine a8 (h := ?_)) | ((first | apply s9 | apply x9 | apply z8 | apply s7 | apply s8 | apply w4 | apply z9 | apply w5)) | (apply v9; exact rfl; exact fF_) | ((first | apply w6 | apply z6 | apply z0 | apply p5 | apply y0 | apply z7)))
      apply p8; apply zb0 Try.results30; exact rV_; intro w' hw
      exact ⟨rfl, hw.below (by simp)⟩
end Go.Proofs.Ytdahckhlfldkkaa
namespace Go.Sx.Plt
theorem ye1 {l : List (Int × Int)} {i : Nat} {s : Int × Int} {q : Int} (hx : l[i]? = some s) (h : zg3 l q = zg3 (l.drop i) (q - zb8 (l.take i))) (hq : zb8 (l.take (i + 1)) ≤ q) : zg3 l q = zg3 (l.drop (i + 1)) (q - zb8 (l.take (i + 1))) := by
  have hs := zL4 hx
  obtain ⟨hlt, rfl⟩ := List.getElem?_eq_some_iff.1 hx
  rw [h, ← List.getElem_cons_drop (h := hlt), zg3, if_neg (by omega)]
  congr 1
  omega
theorem yj9 {l : List (Int × Int)} {i : Nat} {s : Int × Int} {q : Int} (hx : l[i]? = some s) (h : zg3 l q = zg3 (l.drop i) (q - zb8 (l.take i))) (hq : q - zb8 (l.take i) < s.2 - s.1) : zg3 l q = some (s.1 + (q - zb8 (l.take i))) := by
  obtain ⟨hlt, rfl⟩ := List.getElem?_eq_some_iff.1 hx
  rw [h, ← List.getElem_cons_drop (h := hlt), zg3, if_pos hq]
end Go.Sx.Plt
namespace Go.Proofs.Ytdahckhlfldkkaa
open Go Go.Sx Go.RowKit
attribute [local irreducible] WL WC WQ WR WB WF QB St Exit.then Exit.inBlock Exit.noGoto bodyPost roundPost zc1 YR RG BM Calls B zc7 ze3
theorem yd7 {v : Value} {l : List Int} {x z : Int} (hz : Plt.zu3 x l = z) (w : World) (h : SV w 1 encI v l) : Calls Try.prog 42 #[v, .int .i64 x] w fun e w' => e = .returned (.int .i64 z) ∧ Below w.heap.size w w' := by
  subst hz; exact zM2 x w h
set_option maxHeartbeats 4000000 in
theorem yb1 {d : RD} {r : Plt.Run} {x rate t : Int} (hrate : 1 ≤ rate ∧ rate ≤ 1000000) (hb : ∀ s ∈ r.slices, 0 ≤ s.1 ∧ s.1 ≤ s.2 ∧ s.2 ≤ 1051898399) (hn : r.slices.length ≤ 100000) (w : World) (h : RunV w d r) :
    Calls Try.prog 29 #[zA5 d, .int .i64 x, .int .i64 rate, .int .i64 t] w fun e w' => e = .returned (.bool (Plt.zn1 r x rate t)) ∧ Below w.heap.size w w' := by
  obtain ⟨hp, -, -, hI, hS, -, -, -⟩ := h
  obtain ⟨dp, ds, df, ⟨xa1, n1, c1⟩, ⟨a2, n2, c2⟩, ⟨a3, n3, c3⟩, ⟨a4, n4, c4⟩, ⟨a5, n5, c5⟩, ⟨a6, n6, c6⟩, ⟨a7, n7, c7⟩⟩ := d
  unfold zA5
  dsimp only [sdV] at hp hI hS ⊢
  subst hp
  obtain ⟨_, _, e1, hc1, -⟩ := hI.open
  cases e1
  obtain ⟨_, _, e2, hc2, hop⟩ := hS.open
  cases e2
  have hll := Plt.zj6 r.pass r.slices
  cases hi : Plt.zn4 x r.items with
  | none =>
    have hz : Plt.zu3 x r.items = -1 := by unfold Plt.zu3; rw [hi]
    have e : Plt.zn1 r x rate t = false := by unfold Plt.zn1; rw [hi]
    rw [e]
    refine zV6 Try.func29 rfl Try.ntmps29 rfl (Rep.start w) ?_
    repeat' (first | (apply v8; exact rfl; exact dT_) | ((first | ((apply t8 (f := 42)); exact rfl) | ((apply t9 (f := 42)); exact rfl; kernel_rfl; exact rfl; exact sJ_)); exact eV_; exact (fun w hw => yd7 hz w (hI.keep hw (by exact aO_)))) | ((first | apply w9 | apply y8 | apply x8); exact rfl; exact rfl) | (apply w7; first | refine u9 (h := ?_) | refine y9 (h := ?_) | refine w8 (h := ?_) | refine q6 (h := ?_) | refine q0 (h := ?_)) | ((first | apply p3 | apply l0); exact rfl; exact rfl; exact rfl) | (apply o7; exact rfl; intro _) | (apply zc5; exact rfl; exact rfl; exact rfl; intro _) | (apply q7; first | refine q8 (h := ?_) | refine q9 (h := ?_)) | ((first | apply s9 | apply x9 | apply z8 | apply s7 | apply s8 | apply w4 | apply z9 | apply w5)) | ((first | apply w6 | apply z6 | apply z0 | apply p5 | apply y0 | apply z7)))
    (first | (apply zU1; exact aT_; exact uP_; apply zb0 Try.results29; exact rV_; intro w' hw) | (apply zU0; apply zb0 Try.results29; exact rV_; intro w' hw))
    exact ⟨rfl, hw.below (by simp)⟩
  | some i0 =>
  have hil := (List.getElem?_eq_some_iff.1 (Plt.zp3 hi).1).1
  have hz : Plt.zu3 x r.items = (i0 : Int) := by unfold Plt.zu3; rw [hi]
  obtain ⟨q, hq⟩ : ∃ q, (i0 : Int) / rate = q := ⟨_, rfl⟩
  have hq0 : 0 ≤ q := by rw [← hq]; exact Int.ediv_nonneg (by omega) (by omega)
  have e : Plt.zn1 r x rate t = match Plt.zg3 r.slices q with
    | none => false
    | some m => decide (m < t) := by unfold Plt.zn1; rw [hi]; simp only; rw [hq]; (try (cases Plt.zg3 r.slices q <;> rfl))
  rw [e]
  clear e
  obtain ⟨ix, hix⟩ : ∃ ix : Int, (i0 : Int) = ix := ⟨_, rfl⟩
  have hixb : 0 ≤ ix ∧ ix ≤ 9223372036854775807 := by omega
  rw [hix] at hz hq
  refine zV6 Try.func29 rfl Try.ntmps29 rfl (Rep.start w) ?_
  repeat' (first | (apply v9; exact rfl; exact dF_) | ((first | ((apply t8 (f := 42)); exact rfl) | ((apply t9 (f := 42)); exact rfl; kernel_rfl; exact rfl; exact sJ_)); exact eV_; exact (fun w hw => yd7 hz w (hI.keep hw (by exact aO_)))) | ((first | ((apply f5 (f := 43)); exact rfl) | ((apply d6 (f := 43)); exact rfl; exact rfl; exact sJ_)); exact eV_; exact (fun w _ => zF0 _ _ _ w); rintro v N ⟨b1, rfl, rfl⟩ <;> (try simp only [List.cons_append, List.nil_append])) | ((first | apply w9 | apply y8 | apply x8); exact rfl; exact rfl) | (apply w7; first | refine u9 (h := ?_) | refine y9 (h := ?_) | refine w8 (h := ?_) | refine q6 (h := ?_) | refine q0 (h := ?_)) | ((first | apply p3 | apply l0); exact rfl; exact rfl; exact rfl) | (apply o7; exact rfl; intro _) | (apply zc5; exact rfl; exact rfl; exact rfl; intro _) | (apply q7; first | refine q8 (h := ?_) | refine q9 (h := ?_)) | ((first | apply s9 | apply x9 | apply z8 | apply s7 | apply s8 | apply w4 | apply z9 | apply w5)) | ((first | apply w6 | apply z6 | apply z0 | apply p5 | apply y0 | apply z7)))
  rename_i b4 b6 b7 b8 b9
  (apply zy7; exact rfl; infer_instance; exact rfl; exact Try.ntmps58; exact rfl; intro lp bd Z a1 ha1 hZ)
  repeat' (first | ((first | apply w9 | apply y8 | apply x8 | apply p4); exact rfl; exact rfl) | (apply w7; first | refine u9 (h := ?_) | refine y9 (h := ?_) | refine w8 (h := ?_) | refine q6 (h := ?_) | refine q0 (h := ?_)) | (apply o9; infer_instance; exact rfl; exact rfl) | ((first | apply s9 | apply x9 | apply z8 | apply s7 | apply s8 | apply w4 | apply z9 | apply w5)) | ((first | apply w6 | apply z6 | apply z0 | apply p5 | apply y0 | apply z7)))
  apply j9 (σ := Nat) (Fs := fun i => [(9, .int .i64 i), (8, .int .i64 (Plt.zd6 r.pass r.slices).length), (7, .slice a2 (Plt.zd6 r.pass r.slices).length c2), (3, .int .i64 (Plt.zb8 (r.slices.take i))), (0, .func (.yield lp) #[] #[]), (1, ptr b1)])
    (Ls := fun i => [⟨lp, Z .ready none, true⟩, ⟨bd, .deferred (some []), true⟩, ⟨b1, Ce [.slice a2 (Plt.zd6 r.pass r.slices).length c2] 68, true⟩, ⟨b9, Ce [.int .i64 ix] 3, true⟩, ⟨b8, Ce [.bool false] 4, true⟩, ⟨b7, Ce [.int .i64 t] 3, true⟩, ⟨b6, Ce [.int .i64 rate] 3, true⟩, ⟨b4, Ce [.int .i64 r.pass, .int .i64 ds, .int .i64 df, .slice xa1 r.items.length c1, .slice a2 (Plt.zd6 r.pass r.slices).length c2, .slice a3 n3 c3, .slice a4 n4 c4, .slice a5 n5 c5, .slice a6 n6 c6, .slice a7 n7 c7] 74, true⟩])
    (I := fun i => i ≤ r.slices.length ∧ Plt.zb8 (r.slices.take i) ≤ q ∧ Plt.zg3 r.slices q = Plt.zg3 (r.slices.drop i) (q - Plt.zb8 (r.slices.take i))) (μ := fun i => r.slices.length - i) (s0 := 0)
  · exact ⟨Nat.zero_le _, by simpa [Plt.zb8] using hq0, by simp [Plt.zb8]⟩
  · exact fS_
  · exact hS_
  rintro i ⟨hi2, hspq, hmq⟩
  have hsb := Plt.yo8 (l := r.slices.take i) fun s hs => hb s (List.mem_of_mem_take hs)
  have hsb0 := Plt.zM8 (l := r.slices.take i) fun s hs => (hb s (List.mem_of_mem_take hs)).2.1
  have htl : ((r.slices.take i).length : Int) ≤ 100000 := by rw [List.length_take]; omega
  by_cases hlt : i < r.slices.length
  · obtain ⟨⟨f, u⟩, hx⟩ : ∃ s, r.slices[i]? = some s := ⟨_, List.getElem?_eq_getElem hlt⟩
    have hfu := hb _ (List.mem_of_getElem? hx)
    dsimp only at hfu
    obtain ⟨bs, os, cc, e, fz, rfl, hk, hpt⟩ := hop (by omega)
    have g1 : ∀ j v, ([.int .i64 r.pass, .int .i64 f, .int .i64 u] : List Value)[j]? = some v → cc[os + i * 3 + j]? = some v := hpt.get (zI8 hx)
    have hst := Plt.zL4 hx
    have hhit := Plt.yj9 hx hmq
    have hnext := Plt.ye1 hx hmq
    dsimp only at hst hhit
    rw [hst] at hnext
    have hst' := hst
    generalize Plt.zb8 (r.slices.take i) = n at hsb hsb0 hst hhit hspq hnext hst' ⊢
    clear hmq
    repeat' (first | ((first | apply w9 | apply y8 | apply x8 | apply p4); exact rfl; exact rfl) | (apply w7; first | refine u9 (h := ?_) | refine y9 (h := ?_) | refine w8 (h := ?_) | refine q6 (h := ?_) | refine q0 (h := ?_)) | ((first | apply p3 | apply l0); exact rfl; exact rfl; exact rfl) | (apply o7; exact rfl; intro _) | (apply q7; first | refine q8 (h := ?_) | refine q9 (h := ?_)) | (apply m8; infer_instance; infer_instance; exact rfl; exact rfl; (first | exact rfl | omega); exact rfl; (first | assumption | omega | decide)) | ((first | apply s9 | apply x9 | apply z8 | apply s7 | apply s8 | apply w4 | apply z9 | apply w5)) | (apply v8; exact rfl; exact tT_) | ((first | apply w6 | apply z6 | apply z0 | apply p5 | apply y0 | apply z7)))
    rename_i b5
    apply j9 (σ := Int) (Fs := fun m => [(6, .int .i64 m), (5, ptr b5), (9, .int .i64 i), (8, .int .i64 (Plt.zd6 r.pass r.slices).length), (7, .slice (some ⟨bs, os, none⟩) (Plt.zd6 r.pass r.slices).length c2), (3, .int .i64 (n + (m - f))), (0, .func (.yield lp) #[] #[]), (1, ptr b1)])
      (Ls := fun m => [⟨b5, Ce [.int .i64 r.pass, .int .i64 f, .int .i64 u] 76, true⟩, ⟨lp, Z .ready none, true⟩, ⟨bd, .deferred (some []), true⟩, ⟨b1, Ce [.slice (some ⟨bs, os, none⟩) (Plt.zd6 r.pass r.slices).length c2] 68, true⟩, ⟨b9, Ce [.int .i64 ix] 3, true⟩, ⟨b8, Ce [.bool false] 4, true⟩, ⟨b7, Ce [.int .i64 t] 3, true⟩, ⟨b6, Ce [.int .i64 rate] 3, true⟩, ⟨b4, Ce [.int .i64 r.pass, .int .i64 ds, .int .i64 df, .slice xa1 r.items.length c1, .slice (some ⟨bs, os, none⟩) (Plt.zd6 r.pass r.slices).length c2, .slice a3 n3 c3, .slice a4 n4 c4, .slice a5 n5 c5, .slice a6 n6 c6, .slice a7 n7 c7] 74, true⟩])
      (I := fun m => (f ≤ m ∧ m ≤ u) ∧ n + (m - f) ≤ q) (μ := fun m => (u - m).toNat) (s0 := f)
    · exact ⟨by omega, by omega⟩
    · (try dsimp only); rw [show n + (f - f) = n from by omega]; exact fS_
    · exact hS_
    rintro m ⟨⟨hm1, hm2⟩, hmq2⟩
    by_cases hmu : m < u
    · have es : n + (m - f) + 1 = n + (m + 1 - f) := by omega
      by_cases hhq : n + (m - f) = q
      · have hres : Plt.zg3 r.slices q = some m := by rw [hhit (by omega)]; congr 1; omega
        rw [hres]
        as_aux_lemma =>
          repeat' (first | (apply v8; exact rfl; exact dT_) | ((apply zR1 (v := q)); exact rfl; exact rfl; exact hq; omega; exact rfl) | (apply zv2; exact rfl; exact eV_; assumption; assumption; exact aT_; exact rfl; exact rfl; (repeat (first | exact RPar.nil | apply RPar.cons)); intro aI haI) | (apply zu5; assumption; exact aT_; exact uP_) | (first | (apply zu7; assumption; exact rfl; assumption; exact aT_; exact uP_) | (apply zj7; assumption; exact rfl; assumption; exact aT_; exact uP_) | (apply zi3; assumption; exact rfl; assumption; exact aT_; exact uP_)) | (first | apply zC3 Try.results58 | apply zv3 Try.results58) | (first | (apply zu6; assumption; assumption; exact aT_; (intro hst; cases hst); exact uP_) | (apply zq3; assumption; assumption; exact aT_; (intro hst; cases hst); exact uP_)) | ((first | apply w9 | apply y8 | apply x8 | apply p4); exact rfl; exact rfl) | (apply w7; first | refine u9 (h := ?_) | refine y9 (h := ?_) | refine w8 (h := ?_) | refine q6 (h := ?_) | refine q0 (h := ?_)) | ((first | apply p3 | apply l0); exact rfl; exact rfl; exact rfl) | (apply zd5; exact rfl; exact rfl) | (apply q7; first | refine q8 (h := ?_) | refine q9 (h := ?_)) | ((first | apply s9 | apply x9 | apply z8 | apply s7 | apply s8 | apply w4 | apply z9 | apply w5)) | (apply v8; exact rfl; exact tT_) | ((first | apply w6 | apply z6 | apply z0 | apply p5 | apply y0 | apply z7)))
          (first | (apply zU1; exact aT_; exact uP_; apply zb0 Try.results29; exact rV_; intro w' hw) | (apply zU0; apply zb0 Try.results29; exact rV_; intro w' hw))
          exact ⟨rfl, hw.below (by simp)⟩
      · as_aux_lemma =>
          repeat' (first | (apply v8; exact rfl; exact dT_) | (apply v9; exact rfl; exact dF_) | ((apply zR1 (v := q)); exact rfl; exact rfl; exact hq; omega; exact rfl) | (apply zv2; exact rfl; exact eV_; assumption; assumption; exact aT_; exact rfl; exact rfl; (repeat (first | exact RPar.nil | apply RPar.cons)); intro aI haI) | (apply zu5; assumption; exact aT_; exact uP_) | (first | (apply zu7; assumption; exact rfl; assumption; exact aT_; exact uP_) | (apply zj7; assumption; exact rfl; assumption; exact aT_; exact uP_) | (apply zi3; assumption; exact rfl; assumption; exact aT_; exact uP_)) | (first | apply zC3 Try.results58 | apply zv3 Try.results58) | (first | (apply zu6; assumption; assumption; exact aT_; (intro hst; cases hst); exact uP_) | (apply zq3; assumption; assumption; exact aT_; (intro hst; cases hst); exact uP_)) | ((first | apply w9 | apply y8 | apply x8 | apply p4); exact rfl; exact rfl) | (apply w7; first | refine u9 (h := ?_) | refine y9 (h := ?_) | refine w8 (h := ?_) | refine q6 (h := ?_) | refine q0 (h := ?_)) | ((first | apply p3 | apply l0); exact rfl; exact rfl; exact rfl) | (apply zd5; exact rfl; exact rfl) | (apply j0; exact rfl; exact rfl; exact rfl; (constructor <;> omega)) | ((first | apply s9 | apply x9 | apply z8 | apply s7 | apply s8 | apply w4 | apply z9 | apply w5)) | (apply v9; exact rfl; exact fF_) | ((first | apply w6 | apply z6 | apply z0 | apply p5 | apply y0 | apply z7)))
          refine o0 (m + 1) ⟨by omega, by omega⟩ (by omega) ?_ ?_
          · (try dsimp only); rw [← es]; exact fS_
          · exact hS_
    · obtain rfl : m = u := by omega
      as_aux_lemma =>
        repeat' (first | (apply v9; exact rfl; exact dF_) | ((first | apply w9 | apply y8 | apply x8 | apply p4); exact rfl; exact rfl) | (apply w7; first | refine u9 (h := ?_) | refine y9 (h := ?_) | refine w8 (h := ?_) | refine q6 (h := ?_) | refine q0 (h := ?_)) | ((first | apply p3 | apply l0); exact rfl; exact rfl; exact rfl) | (apply j0; exact rfl; exact rfl; exact rfl; (constructor <;> omega)) | ((first | apply s9 | apply x9 | apply z8 | apply s7 | apply s8 | apply w4 | apply z9 | apply w5)) | ((first | apply w6 | apply z6 | apply z0 | apply p5 | apply y0 | apply z7)))
        refine o0 (i + 1) ⟨by omega, by rw [hst]; exact hmq2, by rw [hst']; exact hnext hmq2⟩ (by omega) ?_ ?_
        · (try dsimp only); rw [hst]; exact fS_
        · exact hS_
  obtain rfl : i = r.slices.length := by omega
  rw [List.drop_length, Plt.zg3] at hmq
  rw [hmq]
  as_aux_lemma =>
    repeat' (first | (apply v9; exact rfl; exact dF_) | (apply zv2; exact rfl; exact eV_; assumption; assumption; exact aT_; exact rfl; exact rfl; (repeat (first | exact RPar.nil | apply RPar.cons)); intro aI haI) | (apply zu5; assumption; exact aT_; exact uP_) | (first | (apply zu7; assumption; exact rfl; assumption; exact aT_; exact uP_) | (apply zj7; assumption; exact rfl; assumption; exact aT_; exact uP_) | (apply zi3; assumption; exact rfl; assumption; exact aT_; exact uP_)) | (first | apply zC3 Try.results58 | apply zv3 Try.results58) | (first | (apply zu6; assumption; assumption; exact aT_; (intro hst; cases hst); exact uP_) | (apply zq3; assumption; assumption; exact aT_; (intro hst; cases hst); exact uP_)) | ((first | apply p3 | apply l0); exact rfl; exact rfl; exact rfl) | (apply q7; first | refine q8 (h := ?_) | refine q9 (h := ?_)) | ((first | apply s9 | apply x9 | apply z8 | apply s7 | apply s8 | apply w4 | apply z9 | apply w5)) | ((first | apply w6 | apply z6 | apply z0 | apply p5 | apply y0 | apply z7)))
    (first | (apply zU1; exact aT_; exact uP_; apply zb0 Try.results29; exact rV_; intro w' hw) | (apply zU0; apply zb0 Try.results29; exact rV_; intro w' hw))
    exact ⟨rfl, hw.below (by simp)⟩
end Go.Proofs.Ytdahckhlfldkkaa
namespace Go.Sx.Plt
def zp8 (ms : List zb6) : List (Int × Int) := ms.map fun m => (m.id, m.rate)
def zu0 (p : g8) (x t : Int) (n : Nat) : Bool := match (za2 p)[n]?, p.passes[n]? with
  | some r, some y => zn1 r x (zr8 p.ms y.mach).rate t
  | _, _ => false
def zE8 (p : g8) (x t : Int) : Nat → Option Nat
  | 0 => none
  | n + 1 => if zu0 p x t n = true then some n else zE8 p x t n
def zk6 (p : g8) (x t : Int) : (Int × Int × Int) × Int := match zn4 x (p.items.map Item.id) with
  | none => ((0, 0, 0), 6)
  | some k =>
    if t < 0 then ((0, 0, 0), 2) else
    if 1051898399 < t then ((0, 0, 0), 3) else
    match zE8 p x t p.passes.length with
    | some n => (match (za2 p)[n]? with | some r => zp5 r x | none => (0, 0, 0), 0)
    | none => ((1, 0, match p.items[k]? with | some y => y.batch | none => 0), 0)
theorem zC4 (ms : List zb6) : (zp8 ms).map Prod.fst = ms.map zb6.id := by simp [zp8, Function.comp_def]
theorem yr9 {ms : List zb6} {j : Nat} {m : zb6} (hn : (ms.map zb6.id).Nodup) (h : ms[j]? = some m) : asF m.id (zp8 ms) = some m.rate :=
  zA7 (j := j) (by rw [zC4]; exact hn) (by rw [zp8, List.getElem?_map, h]; rfl)
theorem zM6 {h : Hall} {m : zb6} {stops : List (Int × Int)} {y : za3} (hal : ∀ ready items, za4 h (max y.rel ((asF m.id h.free).getD 0)) [] y.src = some (ready, items) → items ≠ [] → zb7 [⟨y.id, ready, 1051898399, zb3 items.length m.rate⟩] m.shifts = (0, 0)) :
    (zd0 h m stops y).1.slices.length ≤ 200 ∧ ∀ s ∈ (zd0 h m stops y).1.slices, 0 ≤ s.1 ∧ s.1 ≤ s.2 ∧ s.2 ≤ 1051898399 := by
  have hmis : (missed y).slices.length ≤ 200 ∧ ∀ s ∈ (missed y).slices, 0 ≤ s.1 ∧ s.1 ≤ s.2 ∧ s.2 ≤ 1051898399 := ⟨by simp [missed], fun s hs => by simp [missed] at hs⟩
  cases ht : za4 h (max y.rel ((asF m.id h.free).getD 0)) [] y.src with
  | none => unfold zd0; rw [ht]; exact hmis
  | some q =>
    obtain ⟨ready, items⟩ := q
    by_cases hne : items = []
    · subst hne
      unfold zd0
      rw [ht]
      simp only [ne_eq, not_true_eq_false, false_and, if_false, if_true]
      split
      · exact hmis
      · exact ⟨by simp, fun s hs => by simp at hs⟩
    · have h1 := zy4 (hal ready items ht hne)
      have h2 := h1.1
      unfold Job.ok at h2
      dsimp only at h2
      unfold zd0
      rw [ht]
      simp only [hne, if_false, ne_eq, not_false_eq_true, true_and]
      split
      · exact hmis
      · split
        · exact hmis
        · refine ⟨Nat.le_trans (Go.Proofs.Ytdahckhlfldkkaa.slices_len _ _) h1.2.1, ?_⟩
          exact Go.Proofs.Ytdahckhlfldkkaa.slices_bd (by omega) (by omega) h1.2.2
end Go.Sx.Plt
namespace Go.Proofs.Ytdahckhlfldkkaa
open Go Go.Sx Go.RowKit
attribute [local irreducible] WL WC WQ WR WB WF QB St Exit.then Exit.inBlock Exit.noGoto bodyPost roundPost zc1 YR RG BM Calls B zc7 ze3
theorem yz7 {i s ba x : Int} {b4 : Nat} (w : World) (h : w.heap[b4]? = some (Ce [.int .i64 x] 3)) : Calls Try.prog 27 #[.agg #[.int .i64 i, .int .i64 s, .int .i64 ba], ptr b4] w fun e w' => e = .returned (.bool (decide (i = x))) ∧ Below w.heap.size w w' := by
  refine za8 Try.func27 rfl Try.ntmps27 rfl (Rep.start w) ?_
  repeat' (first | ((first | apply y8 | apply x8); exact rfl; exact rfl) | (apply w7; first | refine u9 (h := ?_) | refine y9 (h := ?_) | refine w8 (h := ?_) | refine q6 (h := ?_) | refine q0 (h := ?_)) | (apply l0; exact rfl; exact rfl; exact rfl) | (apply zc5; exact rfl; exact rfl; exact rfl; intro _) | ((first | apply s9 | apply x9 | apply z8 | apply s7 | apply s8 | apply w4 | apply z9 | apply w5)) | ((first | apply w6 | apply z6 | apply z0 | apply p5 | apply y0 | apply z7)))
  apply p8; apply zb0 Try.results27; exact rV_; intro w' hw
  exact ⟨rfl, hw.below (by simp)⟩
theorem zN4 {v : Value} {l : List Plt.Item} {x : Int} {b4 : Nat} (w : World) (h : SV w 3 zu8 v l) (hb : w.heap[b4]? = some (Ce [.int .i64 x] 3)) : Calls Try.prog 26 #[v, .func (.func 27) #[] #[ptr b4]] w fun e w' => e = .returned (.int .i64 (Plt.zu3 x (l.map Plt.Item.id))) ∧ Below w.heap.size w w' := by
  obtain ⟨a0, c0, rfl, hc, hop⟩ := h.open
  refine za8 Try.func26 rfl Try.ntmps26 rfl (Rep.start w) ?_
  repeat' (first | ((first | apply w9 | apply y8); exact rfl; exact rfl) | (apply o9; infer_instance; exact rfl; exact rfl) | ((first | apply s9 | apply x9 | apply z8 | apply s7 | apply s8 | apply w4 | apply z9 | apply w5)) | ((first | apply w6 | apply z6 | apply z0 | apply p5 | apply y0 | apply z7)))
  apply j9 (σ := Nat) (Fs := fun i => [(8, .int .i64 i), (7, .int .i64 l.length), (0, .slice a0 l.length c0), (1, .func (.func 27) #[] #[ptr b4])]) (Ls := fun i => []) (I := fun i => i ≤ l.length ∧ ∀ j, j < i → (l.map Plt.Item.id)[j]? ≠ some x) (μ := fun i => l.length - i) (s0 := 0)
  · exact ⟨Nat.zero_le _, fun j hj => by omega⟩
  · exact fS_
  · exact hS_
  rintro i ⟨hi, hno⟩
  by_cases hlt : i < l.length
  · obtain ⟨⟨id, st, ba⟩, hx⟩ : ∃ y, l[i]? = some y := ⟨_, List.getElem?_eq_getElem hlt⟩
    obtain ⟨b, off, cc, e, fz, rfl, hk, hp⟩ := hop (by omega)
    have g1 : ∀ j u, ([.int .i64 id, .int .i64 st, .int .i64 ba] : List Value)[j]? = some u → cc[off + i * 3 + j]? = some u := hp.get hx
    have hxi : (l.map Plt.Item.id)[i]? = some id := by rw [List.getElem?_map, hx]; rfl
    have hcl : ∀ (w' : World) (L : List Ent), Rep w w' L → AO L → Calls Try.prog 27 #[.agg #[.int .i64 id, .int .i64 st, .int .i64 ba], ptr b4] w' fun e w'' => e = .returned (.bool (decide (id = x))) ∧ Below w'.heap.size w' w'' := fun w' L hw hL => yz7 w' (Kn.oldA hb hL w' hw)
    by_cases hxy : id = x
    · have e1 : Plt.zu3 x (l.map Plt.Item.id) = (i : Int) := by unfold Plt.zu3; rw [Plt.zN9 hno (hxy ▸ hxi)]
      rw [e1]
      as_aux_lemma =>
        repeat' (first | (apply v8; exact rfl; exact dT_) | ((apply zk1 (f := 27)); exact rfl; exact rfl; exact eV_; (intro w' hw; exact hcl w' _ hw (by exact aO_))) | ((first | apply w9 | apply y8); exact rfl; exact rfl) | (apply w7; first | refine u9 (h := ?_) | refine y9 (h := ?_) | refine w8 (h := ?_) | refine q6 (h := ?_) | refine q0 (h := ?_)) | (apply p3; exact rfl; exact rfl; exact rfl) | (apply m8; infer_instance; infer_instance; exact rfl; exact rfl; (first | exact rfl | omega); exact rfl; (first | assumption | omega | decide)) | ((first | apply s9 | apply x9 | apply z8 | apply s7 | apply s8 | apply w4 | apply z9 | apply w5)) | ((first | apply w6 | apply z6 | apply z0 | apply p5 | apply y0 | apply z7)))
        apply p8; apply zb0 Try.results26; exact rV_; intro w' hw
        exact ⟨rfl, hw.below (by simp)⟩
    · have hno2 : ∀ j, j < i + 1 → (l.map Plt.Item.id)[j]? ≠ some x := fun j hj => by
        by_cases hji : j = i
        · subst hji; rw [hxi]; intro e; cases e; exact hxy rfl
        · exact hno j (by omega)
      as_aux_lemma =>
        repeat' (first | (apply v8; exact rfl; exact dT_) | (apply v9; exact rfl; exact dF_) | ((apply zk1 (f := 27)); exact rfl; exact rfl; exact eV_; (intro w' hw; exact hcl w' _ hw (by exact aO_))) | ((first | apply w9 | apply y8); exact rfl; exact rfl) | (apply w7; first | refine u9 (h := ?_) | refine y9 (h := ?_) | refine w8 (h := ?_) | refine q6 (h := ?_) | refine q0 (h := ?_)) | (apply p3; exact rfl; exact rfl; exact rfl) | (apply j0; exact rfl; exact rfl; exact rfl; (constructor <;> omega)) | (apply m8; infer_instance; infer_instance; exact rfl; exact rfl; (first | exact rfl | omega); exact rfl; (first | assumption | omega | decide)) | ((first | apply s9 | apply x9 | apply z8 | apply s7 | apply s8 | apply w4 | apply z9 | apply w5)) | ((first | apply w6 | apply z6 | apply z0 | apply p5 | apply y0 | apply z7)))
        refine o0 (i + 1) ⟨by omega, hno2⟩ (by omega) ?_ ?_
        · exact fS_
        · exact hS_
  obtain rfl : i = l.length := by omega
  have e1 : Plt.zu3 x (l.map Plt.Item.id) = -1 := by
    unfold Plt.zu3
    rw [Plt.zs4.2 (fun hm => by obtain ⟨j, hj⟩ := List.getElem?_of_mem hm; exact hno j (by have := (List.getElem?_eq_some_iff.1 hj).1; simpa using this) hj)]
  rw [e1]
  repeat' (first | (apply v9; exact rfl; exact dF_) | ((first | apply w9 | apply y8); exact rfl; exact rfl) | (apply p3; exact rfl; exact rfl; exact rfl) | ((first | apply s9 | apply x9 | apply z8 | apply s7 | apply s8 | apply w4 | apply z9 | apply w5)) | ((first | apply w6 | apply z6 | apply z0 | apply p5 | apply y0 | apply z7)))
  apply p8; apply zb0 Try.results26; exact rV_; intro w' hw
  exact ⟨rfl, hw.below (by simp)⟩
theorem zs0 {v : Value} {l : List Plt.Item} {x z : Int} {b4 : Nat} (hz : Plt.zu3 x (l.map Plt.Item.id) = z) (w : World) (h : SV w 3 zu8 v l) (hb : w.heap[b4]? = some (Ce [.int .i64 x] 3)) : Calls Try.prog 26 #[v, .func (.func 27) #[] #[ptr b4]] w fun e w' => e = .returned (.int .i64 z) ∧ Below w.heap.size w w' := by
  subst hz; exact zN4 w h hb
theorem zO8 (a : Option Addr) (n c : Nat) (w : World) : Calls Try.prog 28 #[.slice a n c] w fun e w' => ∃ u N, e = .returned u ∧ (∃ b, u = .func (.func 41) #[] #[ptr b] ∧ N = [⟨b, Ce [.slice a n c] 61, true⟩]) ∧ Rep w w' N ∧ ∀ x ∈ N, x.own = true := by
  refine zd2 Try.func28 rfl Try.ntmps28 rfl (Rep.start w) ?_
  repeat' (first | (apply y8; exact rfl; exact rfl) | (apply zc5; exact rfl; exact rfl; exact rfl; intro _) | (apply zk0; refine zA0 (h := ?_)) | ((first | apply s9 | apply x9 | apply z8 | apply s7 | apply s8 | apply w4 | apply z9 | apply w5)) | ((first | apply w6 | apply z6 | apply z0 | apply p5 | apply y0 | apply z7)))
  apply p8; apply zb0 Try.results28; exact rV_; intro w' hw
  exact ⟨_, _, rfl, ⟨_, rfl, rfl⟩, hw.sub (by exact hS_), by simp⟩
theorem yh6 {q : PlD} {p : Plt.g8} {i : Nat} {k x t : Int} (he : Plt.zc6 p = (i, k)) (hk : k ≠ 0) (w : World) (h : PlV w q p) : Calls Try.prog 9 #[plV q, .int .i64 x, .int .i64 t] w fun e w' => e = .returned (.tuple #[.agg #[.int .u8 0, .int .i64 0, .int .i64 0], .int .i64 k]) ∧ Below w.heap.size w w' := by
  obtain ⟨⟨a1, n1, c1⟩, ⟨a2, n2, c2⟩, ⟨a3, n3, c3⟩, ds, ys⟩ := q
  refine zw8 Try.func9 rfl Try.ntmps9 rfl (Rep.start w) ?_
  repeat' (first | (apply v8; exact rfl; exact dT_) | ((first | ((apply t8 (f := 16)); exact rfl) | ((apply t9 (f := 16)); exact rfl; kernel_rfl; exact rfl; exact sJ_)); exact eV_; exact (fun w hw => zR5 he hk w (h.keep hw (by exact aO_)))) | ((first | apply w9 | apply y8 | apply x8); exact rfl; exact rfl) | (apply w7; first | refine u9 (h := ?_) | refine y9 (h := ?_) | refine w8 (h := ?_) | refine q6 (h := ?_) | refine q0 (h := ?_)) | ((first | apply p3 | apply o8 | apply l8 | apply p0); exact rfl; exact rfl; exact rfl) | ((first | apply o7 | apply c8); exact rfl; intro _) | (apply zc5; exact rfl; exact rfl; exact rfl; intro _) | (apply q7; first | refine q8 (h := ?_) | refine q9 (h := ?_)) | (apply g7; first | refine a8 (h := ?_)) | ((first | apply s9 | apply x9 | apply z8 | apply s7 | apply s8 | apply w4 | apply z9 | apply w5)) | ((first | apply w6 | apply z6 | apply z0 | apply p5 | apply y0 | apply z7)))
  (first | (apply zU1; exact aT_; exact uP_; apply zf9 Try.results9; exact rV_; exact rV_; intro w' hw) | (apply zU0; apply zf9 Try.results9; exact rV_; exact rV_; intro w' hw))
  exact ⟨rfl, hw.below (by simp)⟩
end Go.Proofs.Ytdahckhlfldkkaa
namespace Go.Sx.Plt
open Go.Proofs.Ytdahckhlfldkkaa (zh5 psF tkF zl3 zi7 zl2 slices_bd slices_len)
theorem zE9 : ∀ {l : List zb6} {met : List Int} {i : Nat}, zf8 met i l = none → (l.map zb6.id).Nodup ∧ (∀ m ∈ l, m.id ∉ met ∧ zi1 m)
  | [], _, _, _ => by simp
  | m :: r, met, i, h => by
    rw [zf8] at h
    by_cases hm : m.id ∉ met ∧ zi1 m
    · rw [if_pos hm] at h
      obtain ⟨h1, h2⟩ := zE9 h
      refine ⟨?_, fun x hx => ?_⟩
      · rw [List.map_cons, List.nodup_cons]
        refine ⟨fun hx => ?_, h1⟩
        obtain ⟨x, hx, e⟩ := List.mem_map.1 hx
        exact (h2 x hx).1 (by rw [e]; simp)
      · rcases List.mem_cons.1 hx with rfl | hx
        · exact hm
        · exact ⟨fun hh => (h2 x hx).1 (List.mem_append.2 (.inl hh)), (h2 x hx).2⟩
    · rw [if_neg hm] at h; cases h
theorem zE7 : ∀ {l : List Item} {met : List Int} {i : Nat}, zg5 met i l = none → (l.map Item.id).Nodup ∧ (∀ m ∈ l, m.id ∉ met ∧ m.ok)
  | [], _, _, _ => by simp
  | m :: r, met, i, h => by
    rw [zg5] at h
    by_cases hm : m.ok ∧ m.id ∉ met
    · rw [if_pos hm] at h
      obtain ⟨h1, h2⟩ := zE7 h
      refine ⟨?_, fun x hx => ?_⟩
      · rw [List.map_cons, List.nodup_cons]
        refine ⟨fun hx => ?_, h1⟩
        obtain ⟨x, hx, e⟩ := List.mem_map.1 hx
        exact (h2 x hx).1 (by rw [e]; simp)
      · rcases List.mem_cons.1 hx with rfl | hx
        · exact ⟨hm.2, hm.1⟩
        · exact ⟨fun hh => (h2 x hx).1 (List.mem_append.2 (.inl hh)), (h2 x hx).2⟩
    · rw [if_neg hm] at h; cases h
theorem zC1 {msl : List (Int × Int)} : ∀ {l : List za3} {ps tk : List (Int × Int)} {i : Nat}, zf7 msl ps tk i l = none → ∀ (j : Nat) (y : za3), l[j]? = some y → zh1 msl (ps ++ psF msl (l.take j)) (tk ++ tkF (l.take j)) y
  | [], _, _, _, _, _, _, h => by simp at h
  | a :: r, ps, tk, i, h, j, y, hy => by
    rw [zf7] at h
    by_cases ha : zh1 msl ps tk a
    · rw [if_pos ha] at h
      cases j with
      | zero => simp at hy; subst hy; simpa [psF, tkF] using ha
      | succ j =>
        have := zC1 h j y (by simpa using hy)
        simpa [psF, tkF, List.append_assoc] using this
    · rw [if_neg ha] at h; cases h
structure Valid (p : g8) : Prop where
  small : p.ms.length ≤ 20 ∧ p.items.length ≤ 2000 ∧ p.passes.length ≤ 60
  mnd : (p.ms.map zb6.id).Nodup
  right : ∀ m ∈ p.ms, zi1 m
  ind : (p.items.map Item.id).Nodup
  iok : ∀ x ∈ p.items, x.ok
  pok : ∀ (j : Nat) (y : za3), p.passes[j]? = some y → zh1 (zf5 p.ms) (psF (zf5 p.ms) (p.passes.take j)) (tkF (p.passes.take j)) y
theorem zS9 {p : g8} (h : zc6 p = (0, 0)) : Valid p := by
  unfold zc6 at h
  by_cases hb : 20 < p.ms.length ∨ 2000 < p.items.length ∨ 60 < p.passes.length
  · rw [if_pos hb] at h; cases h
  rw [if_neg hb] at h
  cases h1 : zf8 [] 0 p.ms with
  | some i => rw [h1] at h; cases h
  | none =>
    rw [h1] at h
    dsimp only at h
    cases h2 : zg5 [] 0 p.items with
    | some i => rw [h2] at h; cases h
    | none =>
      rw [h2] at h
      dsimp only at h
      cases h3 : zf7 (zf5 p.ms) [] [] 0 p.passes with
      | some i => rw [h3] at h; cases h
      | none =>
        obtain ⟨a1, a2⟩ := zE9 h1
        obtain ⟨b1, b2⟩ := zE7 h2
        exact ⟨by omega, a1, fun m hm => (a2 m hm).2, b1, fun x hx => (b2 x hx).2, fun j y hy => by simpa using zC1 h3 j y hy⟩
theorem yw1 {ms : List zb6} {j : Nat} {m : zb6} (hn : (ms.map zb6.id).Nodup) (h : ms[j]? = some m) : zr8 ms m.id = m := by
  unfold zr8
  have : ms.find? (fun x => decide (x.id = m.id)) = some m := by
    induction ms generalizing j with
    | nil => simp at h
    | cons a r ih =>
      rw [List.map_cons, List.nodup_cons] at hn
      cases j with
      | zero => simp at h; subst h; simp
      | succ j =>
        have h' : r[j]? = some m := by simpa using h
        have hne : a.id ≠ m.id := fun e => hn.1 (List.mem_map.2 ⟨m, List.mem_of_getElem? h', e.symm⟩)
        rw [List.find?_cons, decide_eq_false hne]
        exact ih hn.2 h'
  rw [this]; rfl
theorem Valid.mach {p : g8} (h : Valid p) {j : Nat} {y : za3} (hy : p.passes[j]? = some y) : ∃ (k : Nat) (m : zb6), p.ms[k]? = some m ∧ m.id = y.mach ∧ zr8 p.ms y.mach = m ∧ zi1 m ∧ asF y.mach (zf5 p.ms) = some (m.caps.length : Int) := by
  have h1 := (h.pok j y hy).1.1.2
  obtain ⟨n, hn⟩ := Option.isSome_iff_exists.1 h1
  obtain ⟨k, hk⟩ := zm4 hn
  rw [zf5, List.getElem?_map] at hk
  cases hm : p.ms[k]? with
  | none => rw [hm] at hk; cases hk
  | some m =>
    rw [hm] at hk
    simp only [Option.map_some, Option.some.injEq, Prod.mk.injEq] at hk
    refine ⟨k, m, hm, hk.1, by rw [← hk.1]; exact yw1 h.mnd hm, h.right m (List.mem_of_getElem? hm), by rw [hn, hk.2]⟩
def wF (x : Int) (tk : List (Int × Int)) : List ((Int × Int) × List Int) → Nat
  | [] => 0
  | q :: r => (if q.1 ∈ tk then 0 else q.2.count x) + wF x tk r
theorem yp1 {x : Int} {tk : List (Int × Int)} {a : Int × Int} : ∀ {rows : List ((Int × Int) × List Int)}, a ∉ rows.map Prod.fst → wF x (tk ++ [a]) rows = wF x tk rows
  | [], _ => rfl
  | q :: r, h => by
    rw [List.map_cons, List.mem_cons, not_or] at h
    rw [wF, wF, yp1 h.2]
    congr 1
    have : (q.1 ∈ tk ++ [a]) ↔ q.1 ∈ tk := by simp [show ¬ q.1 = a from fun e => h.1 e.symm]
    by_cases hq : q.1 ∈ tk
    · rw [if_pos hq, if_pos (this.2 hq)]
    · rw [if_neg hq, if_neg (fun hh => hq (this.1 hh))]
theorem zO2 {x : Int} {tk : List (Int × Int)} {a : Int × Int} (ha : a ∉ tk) : ∀ {rows : List ((Int × Int) × List Int)}, (rows.map Prod.fst).Nodup → wF x tk rows = ((asF a rows).getD []).count x + wF x (tk ++ [a]) rows
  | [], _ => by simp [wF, asF]
  | q :: r, h => by
    rw [List.map_cons, List.nodup_cons] at h
    rw [wF, wF, asF]
    by_cases e : q.1 = a
    · subst e
      rw [if_neg ha, if_pos rfl, if_pos (by simp), yp1 h.1]
      simp
    · have ih := zO2 (x := x) ha h.2
      rw [if_neg e, ih]
      have : (q.1 ∈ tk ++ [a]) ↔ q.1 ∈ tk := by simp [e]
      by_cases hq : q.1 ∈ tk
      · rw [if_pos hq, if_pos (this.2 hq)]; omega
      · rw [if_neg hq, if_neg (fun hh => hq (this.1 hh))]; omega
theorem yh5 {x : Int} {rows : List ((Int × Int) × List Int)} (hn : (rows.map Prod.fst).Nodup) : ∀ {S tk : List (Int × Int)}, S.Nodup → (∀ s ∈ S, s ∉ tk) → wF x tk rows = (S.flatMap fun s => (asF s rows).getD []).count x + wF x (tk ++ S) rows
  | [], tk, _, _ => by simp
  | a :: S, tk, hS, hd => by
    rw [List.nodup_cons] at hS
    have h1 := zO2 (x := x) (hd a List.mem_cons_self) hn
    have h2 := yh5 (x := x) hn (S := S) (tk := tk ++ [a]) hS.2 (fun s hs hh => by
      rcases List.mem_append.1 hh with hh | hh
      · exact hd s (List.mem_cons_of_mem _ hs) hh
      · simp at hh; subst hh; exact hS.1 hs)
    rw [List.flatMap_cons, List.count_append, h1, h2, List.append_assoc, List.singleton_append]
    omega
theorem yJ9 {x : Int} {tk : List (Int × Int)} {a : Int × Int} {l : List Int} (ha : a ∉ tk) : ∀ {rows : List ((Int × Int) × List Int)}, asF a rows = none → wF x tk (ze8 a l rows) = wF x tk rows + l.count x := by
  intro rows h
  rw [zl4 h]
  have : ∀ r : List ((Int × Int) × List Int), wF x tk (r ++ [(a, l)]) = wF x tk r + l.count x := by
    intro r
    induction r with
    | nil => simp [wF, ha]
    | cons q r ih => rw [List.cons_append, wF, wF, ih]; omega
  exact this rows
theorem yp2 {x id : Int} {tk : List (Int × Int)} (htk : ∀ s ∈ tk, s.1 ≠ id) : ∀ (l : List (List Int)) (k : Nat) (rows : List ((Int × Int) × List Int)), (∀ n : Int, (k : Int) ≤ n → asF (id, n) rows = none) → wF x tk (zf1 id k l rows) = wF x tk rows + l.flatten.count x
  | [], k, rows, _ => by simp [zf1]
  | a :: r, k, rows, h => by
    rw [zf1, yp2 htk r (k + 1) _ (fun n hn => by
      rw [zj9, if_neg (fun e => by have := (Prod.mk.inj e).2; omega)]
      exact h n (by omega)), yJ9 (fun hh => htk _ hh rfl) (h k (by omega)), List.flatten_cons, List.count_append]
    omega
theorem zH6 : ∀ {a b : List Int}, (∀ x, a.count x ≤ b.count x) → a.length ≤ b.length
  | [], b, _ => Nat.zero_le _
  | x :: r, b, h => by
    have hx : x ∈ b := by
      have := h x
      rw [List.count_cons_self] at this
      exact List.count_pos_iff.1 (by omega)
    have h2 := zH6 (a := r) (b := b.erase x) fun z => by
      have := h z
      by_cases e : x = z
      · subst e
        rw [List.count_cons_self] at this
        rw [List.count_erase_self]; omega
      · rw [List.count_cons_of_ne e] at this
        rw [List.count_erase_of_ne (fun hh => e hh.symm)]
        exact this
    rw [List.length_erase_of_mem hx] at h2
    have := List.length_pos_of_mem hx
    rw [List.length_cons]; omega
end Go.Sx.Plt
namespace Go.Sx.Plt
open Go.Proofs.Ytdahckhlfldkkaa (zh5 psF tkF zl3 zi7 zl2 slices_bd slices_len)
theorem zE1 {ps : List (Int × Int)} : ∀ {l tk : List (Int × Int)}, zg1 ps tk l → l.Nodup ∧ ∀ s ∈ l, s ∉ tk ∧ zi9 ps s
  | [], _, _ => by simp
  | a :: r, tk, h => by
    obtain ⟨⟨h1, h2⟩, h3⟩ := h
    obtain ⟨h4, h5⟩ := zE1 h3
    refine ⟨List.nodup_cons.2 ⟨fun ha => (h5 a ha).1 (by simp), h4⟩, fun s hs => ?_⟩
    rcases List.mem_cons.1 hs with rfl | hs
    · exact ⟨h2, h1⟩
    · exact ⟨fun hh => (h5 s hs).1 (List.mem_append.2 (.inl hh)), (h5 s hs).2⟩
def Early (p : g8) (i : Nat) (id : Int) : Prop := ∃ (j : Nat) (y : za3), j < i ∧ p.passes[j]? = some y ∧ y.id = id
theorem Early.mono {p : g8} {i : Nat} {id : Int} (h : Early p i id) : Early p (i + 1) id := by
  obtain ⟨j, y, h1, h2, h3⟩ := h
  exact ⟨j, y, by omega, h2, h3⟩
theorem yr5 {p : g8} {i : Nat} {id n : Int} {msl : List (Int × Int)} (h : asF id (psF msl (p.passes.take i)) = some n) : Early p i id := by
  obtain ⟨j, hj⟩ := zm4 h
  rw [psF, List.getElem?_map] at hj
  cases hy : (p.passes.take i)[j]? with
  | none => rw [hy] at hj; cases hj
  | some y =>
    rw [hy] at hj
    simp only [Option.map_some, Option.some.injEq, Prod.mk.injEq] at hj
    rw [List.getElem?_take] at hy
    split at hy
    · rename_i hji
      exact ⟨j, y, hji, hy, hj.1⟩
    · cases hy
theorem ys7 {p : g8} {i : Nat} {s : Int × Int} {msl : List (Int × Int)} (h : zi9 (psF msl (p.passes.take i)) s) : s.1 = 0 ∨ Early p i s.1 := by
  unfold zi9 at h
  by_cases h0 : s.1 = 0
  · exact .inl h0
  · rw [if_neg h0] at h
    cases ho : asF s.1 (psF msl (p.passes.take i)) with
    | none => rw [ho] at h; exact h.elim
    | some n => exact .inr (yr5 ho)
theorem Valid.new {p : g8} (h : Valid p) {i : Nat} {y : za3} (hy : p.passes[i]? = some y) : ¬ Early p i y.id := by
  rintro ⟨j, z, h1, h2, h3⟩
  have h4 := (h.pok i y hy).1.1.1
  have : (z.id, (asF z.mach (zf5 p.ms)).getD 0) ∈ psF (zf5 p.ms) (p.passes.take i) := List.mem_map.2 ⟨z, List.mem_of_getElem? (by rw [List.getElem?_take, if_pos h1]; exact h2), rfl⟩
  exact zj1.1 h4 _ this h3
theorem Valid.src {p : g8} (h : Valid p) {i : Nat} {y : za3} (hy : p.passes[i]? = some y) : y.src.Nodup ∧ ∀ s ∈ y.src, s ∉ tkF (p.passes.take i) ∧ (s.1 = 0 ∨ Early p i s.1) := by
  obtain ⟨h1, h2⟩ := zE1 (h.pok i y hy).2.1
  exact ⟨h1, fun s hs => ⟨(h2 s hs).1, ys7 (h2 s hs).2⟩⟩
theorem Valid.taken {p : g8} (h : Valid p) : ∀ i, ∀ s ∈ tkF (p.passes.take i), s.1 = 0 ∨ Early p i s.1
  | 0, s, hs => by simp [tkF] at hs
  | i + 1, s, hs => by
    cases hy : p.passes[i]? with
    | none =>
      have : p.passes.take (i + 1) = p.passes.take i := by rw [List.take_add_one, hy]; simp
      rw [this] at hs
      exact (h.taken i s hs).imp id Early.mono
    | some y =>
      rw [zi7 hy] at hs
      rcases List.mem_append.1 hs with hs | hs
      · exact (h.taken i s hs).imp id Early.mono
      · exact ((h.src hy).2 s hs).2.imp id Early.mono
theorem zi6 {h : Hall} : ∀ {l : List (Int × Int)} {r0 ready : Int} {acc items : List Int}, za4 h r0 acc l = some (ready, items) →
    items = acc ++ l.flatMap h.row ∧ r0 ≤ ready ∧ ∀ B, r0 ≤ B → (∀ q ∈ h.ends, q.2 ≤ B) → ready ≤ B
  | [], r0, ready, acc, items, hh => by
    simp only [za4, Option.some.injEq, Prod.mk.injEq] at hh
    exact ⟨by simp [hh.2], by omega, fun B h1 _ => by omega⟩
  | (s1, s2) :: l, r0, ready, acc, items, hh => by
    rw [za4] at hh
    by_cases h0 : s1 = 0
    · subst h0
      rw [if_neg (by simp)] at hh
      obtain ⟨h1, h2, h3⟩ := zi6 hh
      exact ⟨by rw [h1, List.flatMap_cons, List.append_assoc], h2, h3⟩
    · rw [if_pos h0] at hh
      cases he : asF s1 h.ends with
      | none => simp only [he] at hh; cases hh
      | some e =>
        simp only [he] at hh
        obtain ⟨h1, h2, h3⟩ := zi6 hh
        refine ⟨by rw [h1, List.flatMap_cons, List.append_assoc], by omega, fun B hB hq => h3 B ?_ hq⟩
        have := hq _ (zG6 he)
        dsimp only at this
        omega
theorem yk9 (h : Hall) (m : zb6) (stops : List (Int × Int)) (y : za3) : zd0 h m stops y = (missed y, h) ∨ ∃ ready items start fin sl res, za4 h (max y.rel ((asF m.id h.free).getD 0)) [] y.src = some (ready, items) ∧ Srt.zd0 m.caps m.sweeps (items.map (zb9 stops y)) = (res, 0) ∧
    zd0 h m stops y = (⟨y.id, start, fin, items, sl, res⟩, ⟨zf1 y.id 0 res.stackers h.rows, ze8 y.id fin h.ends, ze8 m.id fin h.free⟩) ∧
    ((items = [] ∧ sl = [] ∧ start = ready ∧ fin = ready) ∨ (items ≠ [] ∧ sl = g9 ready (zb3 items.length m.rate) m.shifts ∧ sl ≠ [] ∧ zb3 items.length m.rate ≤ zb8 sl ∧ start = (sl.headD (0, 0)).1 ∧ fin = (sl.getLastD (0, 0)).2)) := by
  cases ht : za4 h (max y.rel ((asF m.id h.free).getD 0)) [] y.src with
  | none => exact .inl (by unfold zd0; rw [ht])
  | some q =>
    obtain ⟨ready, items⟩ := q
    obtain ⟨⟨res, k⟩, hres⟩ : ∃ r, Srt.zd0 m.caps m.sweeps (items.map (zb9 stops y)) = r := ⟨_, rfl⟩
    by_cases hk : k = 0
    · subst hk
      by_cases hne : items = []
      · subst hne
        refine .inr ⟨ready, [], ready, ready, [], res, rfl, hres, ?_, .inl ⟨rfl, rfl, rfl, rfl⟩⟩
        rw [Go.Proofs.Ytdahckhlfldkkaa.runF_idle ht, show Srt.zd0 m.caps m.sweeps [] = (res, 0) from hres]
        unfold Go.Proofs.Ytdahckhlfldkkaa.tailF
        rw [if_neg (by simp)]
      · by_cases hl : g9 ready (zb3 items.length m.rate) m.shifts = [] ∨ zb8 (g9 ready (zb3 items.length m.rate) m.shifts) < zb3 items.length m.rate
        · exact .inl (Go.Proofs.Ytdahckhlfldkkaa.runF_late ht hne hl)
        · refine .inr ⟨ready, items, _, _, _, res, rfl, hres, ?_, .inr ⟨hne, rfl, fun hh => hl (.inl hh), by omega, rfl, rfl⟩⟩
          rw [Go.Proofs.Ytdahckhlfldkkaa.runF_busy ht hne hl, hres]
          unfold Go.Proofs.Ytdahckhlfldkkaa.tailF
          rw [if_neg (by simp)]
    · refine .inl ?_
      by_cases hne : items = []
      · subst hne
        rw [Go.Proofs.Ytdahckhlfldkkaa.runF_idle ht, show Srt.zd0 m.caps m.sweeps [] = (res, k) from hres]
        unfold Go.Proofs.Ytdahckhlfldkkaa.tailF
        rw [if_pos hk]
      · by_cases hl : g9 ready (zb3 items.length m.rate) m.shifts = [] ∨ zb8 (g9 ready (zb3 items.length m.rate) m.shifts) < zb3 items.length m.rate
        · exact Go.Proofs.Ytdahckhlfldkkaa.runF_late ht hne hl
        · rw [Go.Proofs.Ytdahckhlfldkkaa.runF_busy ht hne hl, hres]
          unfold Go.Proofs.Ytdahckhlfldkkaa.tailF
          rw [if_pos hk]
theorem yC8 {l : List (Int × Int)} (h : ∀ s ∈ l, 0 ≤ s.1 ∧ s.1 ≤ s.2 ∧ s.2 ≤ 1051898399) (hne : l ≠ []) : 0 ≤ (l.getLastD (0, 0)).2 ∧ (l.getLastD (0, 0)).2 ≤ 1051898399 := by
  have hm : l.getLastD (0, 0) ∈ l := by
    rw [List.getLastD_eq_getLast?, List.getLast?_eq_getElem?, List.getElem?_eq_getElem (by have := List.length_pos_iff.2 hne; omega)]
    exact List.getElem_mem _
  have := h _ hm
  omega
theorem zz9 {caps : List Int} {s : Int} {l : List Srt.Fd} {res : Srt.M} (h : Srt.zd0 caps s l = (res, 0)) : res = Srt.za2 caps s l ∧ (∀ f ∈ l, f.st < caps.length) ∧ (l.map Srt.Fd.item).Nodup := by
  unfold Srt.zd0 at h
  split at h
  · cases h
  · split at h
    · cases h
    · split at h
      · rename_i h1
        simp only [Prod.mk.injEq] at h
        exact absurd h.2 h1
      · rename_i h1
        simp only [Prod.mk.injEq] at h
        refine ⟨h.1.symm, ?_⟩
        have h1 : Srt.zp0 caps.length l = 0 := Classical.not_not.1 h1
        unfold Srt.zp0 at h1
        split at h1
        · cases h1
        · split at h1
          · cases h1
          · rename_i hb
            have hb2 := Srt.zy5.1 (by simpa using hb)
            exact ⟨fun f hf => (hb2.1 f hf).2.2, hb2.2.1⟩
theorem zy9 (stops : List (Int × Int)) (y : za3) (items : List Int) : (items.map (zb9 stops y)).map Srt.Fd.item = items := by
  rw [List.map_map]
  have : (Srt.Fd.item ∘ zb9 stops y) = id := by
    funext x
    simp only [Function.comp, zb9]
    split <;> rfl
  rw [this, List.map_id]
theorem zC7 {caps : List Int} {s : Int} {stops : List (Int × Int)} {y : za3} {items : List Int} {res : Srt.M} (h : Srt.zd0 caps s (items.map (zb9 stops y)) = (res, 0)) (x : Int) : res.stackers.flatten.count x + (res.over.count x + res.rej.count x) = items.count x := by
  obtain ⟨h1, h2, _⟩ := zz9 h
  have := (Srt.yr3 (s := s) h2).count_eq x
  rw [zy9, ← h1] at this
  rw [← this, Srt.zM0, List.count_append, List.count_append]
structure Inv (p : g8) (i : Nat) (h : Hall) : Prop where
  en : (h.ends.map Prod.fst).Nodup
  eb : ∀ q ∈ h.ends, Early p i q.1 ∧ 0 ≤ q.2 ∧ q.2 ≤ 1051898399
  fn : (h.free.map Prod.fst).Nodup
  fb : ∀ q ∈ h.free, 0 ≤ q.2 ∧ q.2 ≤ 1051898399
  rn : (h.rows.map Prod.fst).Nodup
  rk : ∀ q ∈ h.rows, q.1.1 = 0 ∨ Early p i q.1.1
  wt : ∀ x, wF x (tkF (p.passes.take i)) h.rows ≤ (p.items.map Item.id).count x
theorem Inv.zero (p : g8) : Inv p 0 (za0 p 0) := by
  have key : ∀ l : List Item, ((za1 [] l).map Prod.fst).Nodup ∧ (∀ q ∈ za1 [] l, q.1.1 = 0) ∧ ∀ x, wF x [] (za1 [] l) = (l.map Item.id).count x := by
    intro l
    refine zn0 (p := fun l => ((za1 [] l).map Prod.fst).Nodup ∧ (∀ q ∈ za1 [] l, q.1.1 = 0) ∧ ∀ x, wF x [] (za1 [] l) = (l.map Item.id).count x) ⟨by simp [za1], by simp [za1], by simp [za1, wF]⟩ (fun l y ih => ?_) l
    obtain ⟨h1, h2, h3⟩ := ih
    rw [zy6]
    refine ⟨zg8 h1, fun q hq => ?_, fun x => ?_⟩
    · have : q.1 ∈ (ze8 (0, y.batch) ((asF (0, y.batch) (za1 [] l)).getD [] ++ [y.id]) (za1 [] l)).map Prod.fst := List.mem_map.2 ⟨q, hq, rfl⟩
      rcases zK8.1 this with e | e
      · rw [e]
      · obtain ⟨q', hq', e'⟩ := List.mem_map.1 e
        rw [← e']; exact h2 q' hq'
    · have e1 : wF x [] (ze8 (0, y.batch) ((asF (0, y.batch) (za1 [] l)).getD [] ++ [y.id]) (za1 [] l)) = wF x [] (za1 [] l) + [y.id].count x := by
        have hp := zg8 (k := ((0 : Int), y.batch)) (v := (asF (0, y.batch) (za1 [] l)).getD [] ++ [y.id]) h1
        have g1 := zO2 (x := x) (tk := []) (a := (0, y.batch)) (by simp) hp
        have g2 := zO2 (x := x) (tk := []) (a := (0, y.batch)) (by simp) h1
        rw [zj9, if_pos rfl, Option.getD_some, List.count_append] at g1
        have g3 : wF x ([] ++ [((0 : Int), y.batch)]) (ze8 (0, y.batch) ((asF (0, y.batch) (za1 [] l)).getD [] ++ [y.id]) (za1 [] l)) = wF x ([] ++ [((0 : Int), y.batch)]) (za1 [] l) := by
          generalize (asF (0, y.batch) (za1 [] l)).getD [] ++ [y.id] = v
          generalize za1 [] l = m
          induction m with
          | nil => simp [ze8, wF]
          | cons q r ih =>
            rw [ze8]
            by_cases e : q.1 = (0, y.batch)
            · rw [if_pos e, wF, wF]; simp [e]
            · rw [if_neg e, wF, wF, ih]
        omega
      rw [e1, h3, List.map_append, List.count_append]; rfl
  rw [zq6]
  obtain ⟨h1, h2, h3⟩ := key p.items
  exact ⟨by simp [zx3], by simp [zx3], by simp [zx3], by simp [zx3], h1, fun q hq => .inl (h2 q hq), fun x => by simp [tkF, zx3, h3]⟩
end Go.Sx.Plt
namespace Go.Sx.Plt
open Go.Proofs.Ytdahckhlfldkkaa (zh5 psF tkF zl3 zi7 zl2 slices_bd slices_len)
theorem zz5 {m : zb6} (h : zi1 m) : m.shifts.length ≤ 200 ∧ zi8 0 0 m.shifts = none := by
  have h1 := h.2.2.2
  unfold zb7 at h1
  split at h1
  · cases h1
  · rename_i hb
    split at h1
    · cases h1
    · split at h1
      · cases h1
      · rename_i h2
        exact ⟨by omega, h2⟩
theorem Inv.row_early {p : g8} {i : Nat} {h : Hall} (hi : Inv p i h) {id n : Int} (h1 : id ≠ 0) (hn : ¬ Early p i id) : asF (id, n) h.rows = none := by
  rw [zj1]
  intro q hq e
  rcases hi.rk q hq with h0 | h0
  · rw [e] at h0; exact h1 h0
  · rw [e] at h0; exact hn h0
theorem Inv.count {p : g8} {i : Nat} {h : Hall} (hi : Inv p i h) {S : List (Int × Int)} (hS : S.Nodup) (hd : ∀ s ∈ S, s ∉ tkF (p.passes.take i)) (x : Int) : (S.flatMap h.row).count x + wF x (tkF (p.passes.take i) ++ S) h.rows ≤ (p.items.map Item.id).count x := by
  have h1 := yh5 (x := x) hi.rn hS hd
  have h2 := hi.wt x
  have e : (S.flatMap fun s => (asF s h.rows).getD []) = S.flatMap h.row := rfl
  rw [e] at h1
  omega
theorem Inv.len {p : g8} {i : Nat} {h : Hall} (hv : Valid p) (hi : Inv p i h) {S : List (Int × Int)} (hS : S.Nodup) (hd : ∀ s ∈ S, s ∉ tkF (p.passes.take i)) : (S.flatMap h.row).length ≤ 2000 := by
  have := zH6 (a := S.flatMap h.row) (b := p.items.map Item.id) fun x => by have := hi.count hS hd x; omega
  rw [List.length_map] at this
  have := hv.small.2.1
  omega
theorem yC2 {p : g8} {i : Nat} {h : Hall} (hi : Inv p i h) (id : Int) : 0 ≤ (asF id h.free).getD 0 ∧ (asF id h.free).getD 0 ≤ 1051898399 := by
  cases ho : asF id h.free with
  | none => simp
  | some v => exact hi.fb _ (zG6 ho)
theorem Inv.ready {p : g8} {i : Nat} {h : Hall} (hi : Inv p i h) {y : za3} (hr : 0 ≤ y.rel ∧ y.rel ≤ 1051898399) {m : zb6} {ready : Int} {items : List Int} (ht : za4 h (max y.rel ((asF m.id h.free).getD 0)) [] y.src = some (ready, items)) : 0 ≤ ready ∧ ready ≤ 1051898399 := by
  obtain ⟨_, h2, h3⟩ := zi6 ht
  have hf := yC2 hi m.id
  have := h3 1051898399 (by omega) fun q hq => (hi.eb q hq).2.2
  omega
theorem yD1 {n : Nat} {r : Int} (hn : 0 < n ∧ n ≤ 2000) (hr : 1 ≤ r ∧ r ≤ 1000) : 1 ≤ zb3 n r ∧ zb3 n r ≤ 100000 := by
  unfold zb3
  constructor
  · exact Int.le_ediv_of_mul_le (by omega) (by omega)
  · have := Int.ediv_le_self r (show (0 : Int) ≤ (n : Int) + r - 1 by omega)
    omega
theorem Inv.job {p : g8} {i : Nat} {h : Hall} (hv : Valid p) (hi : Inv p i h) {y : za3} (hy : p.passes[i]? = some y) {m : zb6} (hm : zi1 m) {ready : Int} {items : List Int} (ht : za4 h (max y.rel ((asF m.id h.free).getD 0)) [] y.src = some (ready, items)) (hne : items ≠ []) :
    zb7 [⟨y.id, ready, 1051898399, zb3 items.length m.rate⟩] m.shifts = (0, 0) := by
  have hpo := (hv.pok i y hy).1
  have hrd := hi.ready hpo.2.2 ht
  obtain ⟨h1, _, _⟩ := zi6 ht
  rw [List.nil_append] at h1
  have hs := hv.src hy
  have hl := hi.len hv hs.1 fun s hs' => (hs.2 s hs').1
  rw [← h1] at hl
  have hpos := List.length_pos_iff.2 hne
  have hnb := yD1 ⟨hpos, hl⟩ hm.2.1
  obtain ⟨g1, g2⟩ := zz5 hm
  unfold zb7
  rw [if_neg (by simp; omega)]
  have hid := hpo.2.1
  unfold zB5 at hid
  have hj : zr7 [] 0 [(⟨y.id, ready, 1051898399, zb3 items.length m.rate⟩ : Job)] = none := by
    rw [zr7, if_pos ⟨by unfold Job.ok; dsimp only; omega, by simp⟩]; rfl
  rw [hj]
  dsimp only
  rw [g2]
theorem Inv.fin {p : g8} {i : Nat} {h : Hall} (hv : Valid p) (hi : Inv p i h) {y : za3} (hy : p.passes[i]? = some y) {m : zb6} (hm : zi1 m) {ready start fin : Int} {items : List Int} {sl : List (Int × Int)} (ht : za4 h (max y.rel ((asF m.id h.free).getD 0)) [] y.src = some (ready, items))
    (hc : (items = [] ∧ sl = [] ∧ start = ready ∧ fin = ready) ∨ (items ≠ [] ∧ sl = g9 ready (zb3 items.length m.rate) m.shifts ∧ sl ≠ [] ∧ zb3 items.length m.rate ≤ zb8 sl ∧ start = (sl.headD (0, 0)).1 ∧ fin = (sl.getLastD (0, 0)).2)) : 0 ≤ fin ∧ fin ≤ 1051898399 := by
  have hrd := hi.ready (hv.pok i y hy).1.2.2 ht
  rcases hc with ⟨_, _, _, rfl⟩ | ⟨hne, hsl, hsn, _, _, rfl⟩
  · exact hrd
  · obtain ⟨h1, _, h3⟩ := zy4 (hi.job hv hy hm ht hne)
    have hj := h1
    unfold Job.ok at hj
    dsimp only at hj
    refine yC8 ?_ hsn
    rw [hsl]
    exact slices_bd (by omega) (by omega) h3
theorem Inv.step {p : g8} {i : Nat} (hv : Valid p) {y : za3} (hy : p.passes[i]? = some y) (hi : Inv p i (za0 p i)) : Inv p (i + 1) (za0 p (i + 1)) := by
  obtain ⟨k, m, hmk, hmid, hmf, hmr, hml⟩ := hv.mach hy
  rw [zB2 hy, hmf]
  generalize za0 p i = h at hi ⊢
  have hs := hv.src hy
  have hnew := hv.new hy
  have hid0 : y.id ≠ 0 := by
    have := (hv.pok i y hy).1.2.1
    unfold zB5 at this
    omega
  have hey : Early p (i + 1) y.id := ⟨i, y, Nat.lt_succ_self i, hy, rfl⟩
  rcases yk9 h m (zc0 p.items) y with he | ⟨ready, items, start, fin, sl, res, ht, hres, he, hc⟩
  · rw [he]
    refine ⟨hi.en, fun q hq => ⟨(hi.eb q hq).1.mono, (hi.eb q hq).2⟩, hi.fn, hi.fb, hi.rn, fun q hq => (hi.rk q hq).imp id Early.mono, fun x => ?_⟩
    rw [zi7 hy]
    have := hi.count hs.1 (fun s hs' => (hs.2 s hs').1) x
    show wF x _ h.rows ≤ _
    omega
  · rw [he]
    have hfin := hi.fin hv hy hmr ht hc
    obtain ⟨hit, _, _⟩ := zi6 ht
    rw [List.nil_append] at hit
    refine ⟨zg8 hi.en, fun q hq => ?_, zg8 hi.fn, fun q hq => ?_, zm7 _ _ _ _ hi.rn, fun q hq => ?_, fun x => ?_⟩
    · dsimp only at hq
      have hk := zg8 (k := y.id) (v := fin) hi.en
      obtain ⟨j, hj⟩ := List.getElem?_of_mem hq
      have := zA7 (k := q.1) (v := q.2) hk hj
      rw [zj9] at this
      by_cases e : y.id = q.1
      · rw [if_pos e] at this
        cases this
        exact ⟨e ▸ hey, hfin⟩
      · rw [if_neg e] at this
        have := hi.eb _ (zG6 this)
        exact ⟨this.1.mono, this.2⟩
    · dsimp only at hq
      have hk := zg8 (k := m.id) (v := fin) hi.fn
      obtain ⟨j, hj⟩ := List.getElem?_of_mem hq
      have := zA7 (k := q.1) (v := q.2) hk hj
      rw [zj9] at this
      by_cases e : m.id = q.1
      · rw [if_pos e] at this
        cases this
        exact hfin
      · rw [if_neg e] at this
        exact hi.fb _ (zG6 this)
    · dsimp only at hq
      have hk := zm7 y.id res.stackers 0 h.rows hi.rn
      obtain ⟨j, hj⟩ := List.getElem?_of_mem hq
      obtain ⟨⟨a, b⟩, l⟩ := q
      have := zA7 (k := (a, b)) (v := l) hk hj
      rw [zt8] at this
      split at this
      · rename_i hcc
        exact .inr (hcc.1 ▸ hey)
      · exact (hi.rk _ (zG6 this)).imp id Early.mono
    · dsimp only
      rw [zi7 hy]
      have hc1 := hi.count hs.1 (fun s hs' => (hs.2 s hs').1) x
      rw [← hit] at hc1
      have hc2 := zC7 hres x
      rw [yp2 (fun s hs' => ?_) _ _ _ (fun n _ => hi.row_early hid0 hnew)]
      · omega
      · intro e
        rcases List.mem_append.1 hs' with hh | hh
        · rcases hv.taken i s hh with h0 | h0
          · exact hid0 (e ▸ h0)
          · exact hnew (e ▸ h0)
        · rcases (hs.2 s hh).2 with h0 | h0
          · exact hid0 (e ▸ h0)
          · exact hnew (e ▸ h0)
theorem Inv.all {p : g8} (hv : Valid p) : ∀ i, Inv p i (za0 p i)
  | 0 => Inv.zero p
  | i + 1 => by
    cases hy : p.passes[i]? with
    | none =>
      have e1 : p.passes.take (i + 1) = p.passes.take i := by rw [List.take_add_one, hy]; simp
      have e2 : za0 p (i + 1) = za0 p i := by unfold za0; rw [e1]
      have hi := Inv.all hv i
      rw [e2]
      exact ⟨hi.en, fun q hq => ⟨(hi.eb q hq).1.mono, (hi.eb q hq).2⟩, hi.fn, hi.fb, hi.rn, fun q hq => (hi.rk q hq).imp id Early.mono, fun x => by rw [e1]; exact hi.wt x⟩
    | some y => exact Inv.step hv hy (Inv.all hv i)
theorem zD3 {p : g8} (h : zc6 p = (0, 0)) : Calm p := by
  have hv := zS9 h
  refine ⟨h, hv.mnd, fun i y hy => ?_, fun i y hy => ?_, fun i => ⟨(Inv.all hv i).en, (Inv.all hv i).fn⟩, fun i y hy k => ?_, fun i y hy ready items ht hne => ?_⟩
  · obtain ⟨k, m, h1, h2, h3, h4, _⟩ := hv.mach hy
    exact ⟨k, m, h1, h2, h3, h4.2.1⟩
  · rw [zj1]
    intro q hq e
    exact hv.new hy (e ▸ ((Inv.all hv i).eb q hq).1)
  · have hs := hv.src hy
    have := (Inv.all hv i).len hv (S := y.src.take k) (List.Sublist.nodup (List.take_sublist k _) hs.1) fun s hs' => (hs.2 s (List.mem_of_mem_take hs')).1
    omega
  · obtain ⟨k, m, h1, h2, h3, h4, _⟩ := hv.mach hy
    rw [h3] at ht ⊢
    exact (Inv.all hv i).job hv hy h4 ht hne
end Go.Sx.Plt
namespace Go.Proofs.Ytdahckhlfldkkaa
open Go Go.Sx Go.RowKit
attribute [local irreducible] WL WC WQ WR WB WF QB St Exit.then Exit.inBlock Exit.noGoto bodyPost roundPost zc1 YR RG BM Calls B zc7 ze3
theorem zX8 {dp ds df : Int} {x1 x2 x3 x4 x5 x6 x7 : Option Addr} {n1 k1 n2 k2 n3 k3 n4 k4 n5 k5 n6 k6 n7 k7 : Nat} {r : Plt.Run} {x rate t : Int} {b : Bool} (hso : Plt.zn1 r x rate t = b) (hrate : 1 ≤ rate ∧ rate ≤ 1000000) (hb : ∀ s ∈ r.slices, 0 ≤ s.1 ∧ s.1 ≤ s.2 ∧ s.2 ≤ 1051898399) (hn : r.slices.length ≤ 100000) (w : World)
    (h : RunV w ⟨dp, ds, df, (x1, n1, k1), (x2, n2, k2), (x3, n3, k3), (x4, n4, k4), (x5, n5, k5), (x6, n6, k6), (x7, n7, k7)⟩ r) : Calls Try.prog 29 #[.agg #[.int .i64 dp, .int .i64 ds, .int .i64 df, .slice x1 n1 k1, .slice x2 n2 k2, .slice x3 n3 k3, .slice x4 n4 k4, .slice x5 n5 k5, .slice x6 n6 k6, .slice x7 n7 k7], .int .i64 x, .int .i64 rate, .int .i64 t] w fun e w' => e = .returned (.bool b) ∧ Below w.heap.size w w' := by
  subst hso; exact yb1 hrate hb hn w h
theorem yx9 {dp ds df : Int} {x1 x2 x3 x4 x5 x6 x7 : Option Addr} {n1 k1 n2 k2 n3 k3 n4 k4 n5 k5 n6 k6 n7 k7 : Nat} {r : Plt.Run} {x kd ps nu : Int} (he : Plt.zp5 r x = (kd, ps, nu)) (w : World)
    (h : RunV w ⟨dp, ds, df, (x1, n1, k1), (x2, n2, k2), (x3, n3, k3), (x4, n4, k4), (x5, n5, k5), (x6, n6, k6), (x7, n7, k7)⟩ r) : Calls Try.prog 30 #[.agg #[.int .i64 dp, .int .i64 ds, .int .i64 df, .slice x1 n1 k1, .slice x2 n2 k2, .slice x3 n3 k3, .slice x4 n4 k4, .slice x5 n5 k5, .slice x6 n6 k6, .slice x7 n7 k7], .int .i64 x] w fun e w' => e = .returned (.agg #[.int .u8 kd, .int .i64 ps, .int .i64 nu]) ∧ Below w.heap.size w w' := ye6 he w h
set_option maxHeartbeats 8000000 in
set_option maxRecDepth 100000 in
theorem zN1 {q : PlD} {p : Plt.g8} {x t kd ps nu k : Int} (hc : Plt.Calm p) (he : Plt.zk6 p x t = ((kd, ps, nu), k)) (w : World) (h : PlV w q p) : Calls Try.prog 9 #[plV q, .int .i64 x, .int .i64 t] w fun e w' => e = .returned (.tuple #[.agg #[.int .u8 kd, .int .i64 ps, .int .i64 nu], .int .i64 k]) ∧ Below w.heap.size w w' := by
  have hV := h
  obtain ⟨⟨a1_, n1, c1⟩, ⟨a2, n2, c2⟩, ⟨a3, n3, c3⟩, ds, ys⟩ := q
  obtain ⟨hM, hI, hP, lm, lp, hmach, hpass⟩ := h
  dsimp only [sdV, plV] at hM hI hP lm lp hmach hpass ⊢
  obtain ⟨_, _, e1, hc1, hop1⟩ := hM.open
  cases e1
  obtain ⟨_, _, e2, hc2, hop2⟩ := hI.open
  cases e2
  obtain ⟨_, _, e3, hc3, hop3⟩ := hP.open
  cases e3
  rw [lm] at hM hop1 hc1 ⊢
  rw [lp] at hP hop3 hc3 ⊢
  have hV2 : PlV w ⟨(a1_, p.ms.length, c1), (a2, p.items.length, c2), (a3, p.passes.length, c3), ds, ys⟩ p := by
    refine ⟨?_, hI, ?_, lm, lp, hmach, hpass⟩
    · dsimp only [sdV]; exact hM
    · dsimp only [sdV]; exact hP
  clear hV
  have hplay := fun (w' : World) (L : List Ent) (hw : Rep w w' L) (ho : AO L) => (zs2 hc w' (hV2.keep hw ho) : Calls Try.prog 16 #[.agg #[.slice a1_ p.ms.length c1, .slice a2 p.items.length c2, .slice a3 p.passes.length c3]] w' _)
  have hpl0 := Plt.zh6 p
  unfold Plt.zk6 at he
  cases hz0 : Plt.zn4 x (p.items.map Plt.Item.id) with
  | none =>
    have hz : Plt.zu3 x (p.items.map Plt.Item.id) = -1 := by unfold Plt.zu3; rw [hz0]
    rw [hz0] at he
    cases he
    as_aux_lemma =>
      refine zw8 Try.func9 rfl Try.ntmps9 rfl (Rep.start w) ?_
      repeat' (first | (apply v8; exact rfl; exact dT_) | (apply v9; exact rfl; exact dF_) | ((first | ((apply f5 (f := 16)); exact rfl) | ((apply d6 (f := 16)); exact rfl; exact rfl; exact sJ_)); exact eV_; exact (fun w hw => hplay w _ hw (by exact aO_)); rintro v N ⟨ar, cr, rds, rfl, ⟨hsh, hrl⟩, oN⟩ <;> (try simp only [List.cons_append, List.nil_append])) | ((first | ((apply t8 (f := 26)); exact rfl) | ((apply t9 (f := 26)); exact rfl; kernel_rfl; exact rfl; exact sJ_)); exact eV_; exact (fun w hw => zs0 hz w (hI.keep hw (by exact aO_)) (hw.at (by exact aT_)))) | ((first | apply w9 | apply y8 | apply x8); exact rfl; exact rfl) | (apply w7; first | refine u9 (h := ?_) | refine y9 (h := ?_) | refine w8 (h := ?_) | refine q6 (h := ?_) | refine q0 (h := ?_)) | ((first | apply p3 | apply o8 | apply l8 | apply p0); exact rfl; exact rfl; exact rfl) | ((first | apply o7 | apply c8); exact rfl; intro _) | (apply zc5; exact rfl; exact rfl; exact rfl; intro _) | (apply q7; first | refine q8 (h := ?_) | refine q9 (h := ?_)) | (apply g7; first | refine a8 (h := ?_)) | (apply zk0; refine zA0 (h := ?_)) | ((first | apply s9 | apply x9 | apply z8 | apply s7 | apply s8 | apply w4 | apply z9 | apply w5)) | ((first | apply w6 | apply z6 | apply z0 | apply p5 | apply y0 | apply z7)))
      (first | (apply zU1; exact aT_; exact uP_; apply zf9 Try.results9; exact rV_; exact rV_; intro w' hw) | (apply zU0; apply zf9 Try.results9; exact rV_; exact rV_; intro w' hw))
      exact ⟨rfl, hw.below (show AO _ by exact aO_)⟩
  | some k0 =>
  have hz : Plt.zu3 x (p.items.map Plt.Item.id) = (k0 : Int) := by unfold Plt.zu3; rw [hz0]
  have hkl : k0 < p.items.length := by
    have := (List.getElem?_eq_some_iff.1 (Plt.zp3 hz0).1).1
    simpa using this
  rw [hz0] at he
  dsimp only at he
  by_cases ht0 : t < 0
  · rw [if_pos ht0] at he
    cases he
    as_aux_lemma =>
      refine zw8 Try.func9 rfl Try.ntmps9 rfl (Rep.start w) ?_
      repeat' (first | (apply v8; exact rfl; exact dT_) | (apply v9; exact rfl; exact dF_) | ((first | ((apply f5 (f := 16)); exact rfl) | ((apply d6 (f := 16)); exact rfl; exact rfl; exact sJ_)); exact eV_; exact (fun w hw => hplay w _ hw (by exact aO_)); rintro v N ⟨ar, cr, rds, rfl, ⟨hsh, hrl⟩, oN⟩ <;> (try simp only [List.cons_append, List.nil_append])) | ((first | ((apply t8 (f := 26)); exact rfl) | ((apply t9 (f := 26)); exact rfl; kernel_rfl; exact rfl; exact sJ_)); exact eV_; exact (fun w hw => zs0 hz w (hI.keep hw (by exact aO_)) (hw.at (by exact aT_)))) | ((first | apply w9 | apply y8 | apply x8); exact rfl; exact rfl) | (apply w7; first | refine u9 (h := ?_) | refine y9 (h := ?_) | refine w8 (h := ?_) | refine q6 (h := ?_) | refine q0 (h := ?_)) | ((first | apply p3 | apply o8 | apply l8 | apply p0); exact rfl; exact rfl; exact rfl) | ((first | apply o7 | apply c8); exact rfl; intro _) | (apply zc5; exact rfl; exact rfl; exact rfl; intro _) | (apply q7; first | refine q8 (h := ?_) | refine q9 (h := ?_)) | (apply g7; first | refine a8 (h := ?_)) | (apply zk0; refine zA0 (h := ?_)) | ((first | apply s9 | apply x9 | apply z8 | apply s7 | apply s8 | apply w4 | apply z9 | apply w5)) | ((first | apply w6 | apply z6 | apply z0 | apply p5 | apply y0 | apply z7)))
      (first | (apply zU1; exact aT_; exact uP_; apply zf9 Try.results9; exact rV_; exact rV_; intro w' hw) | (apply zU0; apply zf9 Try.results9; exact rV_; exact rV_; intro w' hw))
      exact ⟨rfl, hw.below (show AO _ by exact aO_)⟩
  rw [if_neg ht0] at he
  by_cases ht1 : 1051898399 < t
  · rw [if_pos ht1] at he
    cases he
    as_aux_lemma =>
      refine zw8 Try.func9 rfl Try.ntmps9 rfl (Rep.start w) ?_
      repeat' (first | (apply v8; exact rfl; exact dT_) | (apply v9; exact rfl; exact dF_) | ((first | ((apply f5 (f := 16)); exact rfl) | ((apply d6 (f := 16)); exact rfl; exact rfl; exact sJ_)); exact eV_; exact (fun w hw => hplay w _ hw (by exact aO_)); rintro v N ⟨ar, cr, rds, rfl, ⟨hsh, hrl⟩, oN⟩ <;> (try simp only [List.cons_append, List.nil_append])) | ((first | ((apply t8 (f := 26)); exact rfl) | ((apply t9 (f := 26)); exact rfl; kernel_rfl; exact rfl; exact sJ_)); exact eV_; exact (fun w hw => zs0 hz w (hI.keep hw (by exact aO_)) (hw.at (by exact aT_)))) | ((first | apply w9 | apply y8 | apply x8); exact rfl; exact rfl) | (apply w7; first | refine u9 (h := ?_) | refine y9 (h := ?_) | refine w8 (h := ?_) | refine q6 (h := ?_) | refine q0 (h := ?_)) | ((first | apply p3 | apply o8 | apply l8 | apply p0); exact rfl; exact rfl; exact rfl) | ((first | apply o7 | apply c8); exact rfl; intro _) | (apply zc5; exact rfl; exact rfl; exact rfl; intro _) | (apply q7; first | refine q8 (h := ?_) | refine q9 (h := ?_)) | (apply g7; first | refine a8 (h := ?_)) | (apply zk0; refine zA0 (h := ?_)) | ((first | apply s9 | apply x9 | apply z8 | apply s7 | apply s8 | apply w4 | apply z9 | apply w5)) | ((first | apply w6 | apply z6 | apply z0 | apply p5 | apply y0 | apply z7)))
      (first | (apply zU1; exact aT_; exact uP_; apply zf9 Try.results9; exact rV_; exact rV_; intro w' hw) | (apply zU0; apply zf9 Try.results9; exact rV_; exact rV_; intro w' hw))
      exact ⟨rfl, hw.below (show AO _ by exact aO_)⟩
  rw [if_neg ht1] at he
  refine zw8 Try.func9 rfl Try.ntmps9 rfl (Rep.start w) ?_
  repeat' (first | (apply v9; exact rfl; exact dF_) | ((first | ((apply f5 (f := 16)); exact rfl) | ((apply d6 (f := 16)); exact rfl; exact rfl; exact sJ_)); exact eV_; exact (fun w hw => hplay w _ hw (by exact aO_)); rintro v N ⟨ar, cr, rds, rfl, ⟨hsh, hrl⟩, oN⟩ <;> (try simp only [List.cons_append, List.nil_append])) | ((first | ((apply t8 (f := 26)); exact rfl) | ((apply t9 (f := 26)); exact rfl; kernel_rfl; exact rfl; exact sJ_)); exact eV_; exact (fun w hw => zs0 hz w (hI.keep hw (by exact aO_)) (hw.at (by exact aT_)))) | ((first | apply w9 | apply y8 | apply x8); exact rfl; exact rfl) | (apply w7; first | refine u9 (h := ?_) | refine y9 (h := ?_) | refine w8 (h := ?_) | refine q6 (h := ?_) | refine q0 (h := ?_)) | ((first | apply p3 | apply o8 | apply l8 | apply p0); exact rfl; exact rfl; exact rfl) | ((first | apply o7 | apply c8); exact rfl; intro _) | (apply zc5; exact rfl; exact rfl; exact rfl; intro _) | (apply q7; first | refine q8 (h := ?_) | refine q9 (h := ?_)) | (apply o9; infer_instance; exact rfl; exact rfl) | (apply zk0; refine zA0 (h := ?_)) | (apply zm0; infer_instance; exact rfl; exact rfl; intro _) | ((first | apply s9 | apply x9 | apply z8 | apply s7 | apply s8 | apply w4 | apply z9 | apply w5)) | ((first | apply w6 | apply z6 | apply z0 | apply p5 | apply y0 | apply z7)))
  rename_i b3 b4 b5 b6 b7 bm b11
  apply j9 (σ := Nat) (Fs := fun i => [(48, .int .i64 i), (47, .int .i64 p.ms.length), (46, .slice a1_ p.ms.length c1), (11, ptr b11), (10, .int .i64 k0), (8, .slice ar (Plt.za2 p).length cr), (7, ptr b7), (6, ptr b6), (5, ptr b5), (4, ptr b4), (3, ptr b3)])
    (Ls := fun i => ⟨b11, Ce [.map (some bm)] 112, true⟩ :: ⟨bm, MO (MM kI kI (Plt.zp8 (p.ms.take i))), true⟩ :: (N ++ (⟨b7, Ce [.int .i64 0] 39, true⟩ :: ⟨b6, Ce [.int .u8 0, .int .i64 0, .int .i64 0] 38, true⟩ :: ⟨b5, Ce [.int .i64 t] 3, true⟩ :: ⟨b4, Ce [.int .i64 x] 3, true⟩ :: ⟨b3, Ce [.slice a1_ p.ms.length c1, .slice a2 p.items.length c2, .slice a3 p.passes.length c3] 26, true⟩ :: [])))
    (I := fun i => i ≤ p.ms.length) (μ := fun i => p.ms.length - i) (s0 := 0)
  · exact Nat.zero_le _
  · exact fS_
  · exact hS_
  intro i hi
  have hi : i ≤ p.ms.length := hi
  by_cases hlt : i < p.ms.length
  · obtain ⟨d, hd⟩ : ∃ d, ds[i]? = some d := ⟨_, List.getElem?_eq_getElem (by omega)⟩
    obtain ⟨m, hx⟩ : ∃ m, p.ms[i]? = some m := ⟨_, List.getElem?_eq_getElem hlt⟩
    have hmv := hmach i d m hd hx
    obtain ⟨b, off, cc, e, fz, rfl, hk, hpt⟩ := hop1 (by omega)
    obtain ⟨id, sw, ra, ⟨x1, k1, z1⟩, ⟨x2, k2, z2⟩⟩ := d
    have g1 : ∀ j u, ([.int .i64 id, .int .i64 sw, .int .i64 ra, .slice x1 k1 z1, .slice x2 k2 z2] : List Value)[j]? = some u → cc[off + i * 5 + j]? = some u := hpt.get hd
    obtain ⟨e1, e2⟩ : id = m.id ∧ ra = m.rate := ⟨hmv.id, hmv.rate⟩
    subst e1 e2
    have hnd := List.Sublist.nodup (List.Sublist.map Plt.zb6.id (List.take_sublist i p.ms)) hc.nd
    have hnk : ((Plt.zp8 (p.ms.take i)).map Prod.fst).Nodup := by rw [Plt.zC4]; exact hnd
    have hput : ze8 m.id m.rate (Plt.zp8 (p.ms.take i)) = Plt.zp8 (p.ms.take (i + 1)) := by
      have hn2 := List.Sublist.nodup (List.Sublist.map Plt.zb6.id (List.take_sublist (i + 1) p.ms)) hc.nd
      rw [take_snoc hx, List.map_append, List.nodup_append] at hn2
      have hout : asF m.id (Plt.zp8 (p.ms.take i)) = none := by
        rw [zj1]
        intro z hz e
        obtain ⟨m', hm', rfl⟩ := List.mem_map.1 hz
        exact hn2.2.2 m'.id (List.mem_map.2 ⟨m', hm', rfl⟩) m.id (by simp) e
      rw [zl4 hout, take_snoc hx]; simp [Plt.zp8]
    as_aux_lemma =>
      repeat' (first | (apply v8; exact rfl; exact dT_) | ((apply zm6 (κ := kI) (ν := kI) (k := m.id) (v := m.rate)); infer_instance; infer_instance; exact rfl; exact rfl; exact rfl; exact aT_; assumption; exact uP_) | ((first | apply w9 | apply y8 | apply x8); exact rfl; exact rfl) | (apply w7; first | refine u9 (h := ?_) | refine y9 (h := ?_) | refine w8 (h := ?_) | refine q6 (h := ?_) | refine q0 (h := ?_)) | ((first | apply p3 | apply o8 | apply l8 | apply p0); exact rfl; exact rfl; exact rfl) | (apply j0; exact rfl; exact rfl; exact rfl; (constructor <;> omega)) | ((first | apply o7 | apply c8); exact rfl; intro _) | (apply q7; first | refine q8 (h := ?_) | refine q9 (h := ?_)) | (apply m8; infer_instance; infer_instance; exact rfl; exact rfl; (first | exact rfl | omega); exact rfl; (first | assumption | omega | decide)) | ((first | apply s9 | apply x9 | apply z8 | apply s7 | apply s8 | apply w4 | apply z9 | apply w5)) | ((first | apply w6 | apply z6 | apply z0 | apply p5 | apply y0 | apply z7)))
      refine o0 (i + 1) (by omega) (by omega) ?_ ?_
      · exact fS_
      · (try dsimp only); rw [← hput]; exact hS_
  obtain rfl : i = p.ms.length := by omega
  rw [List.take_length]
  have hrn : ((Plt.zp8 p.ms).map Prod.fst).Nodup := by rw [Plt.zC4]; exact hc.nd
  clear hop1 hmach
  repeat' (first | (apply v9; exact rfl; exact dF_) | ((first | ((apply f5 (f := 28)); exact rfl) | ((apply d6 (f := 28)); exact rfl; exact rfl; exact sJ_)); exact eV_; exact (fun w _ => zO8 _ _ _ w); rintro v NB ⟨bb, rfl, rfl⟩ <;> (try simp only [List.cons_append, List.nil_append])) | ((first | apply w9 | apply y8 | apply x8); exact rfl; exact rfl) | ((first | apply p3 | apply o8 | apply l8 | apply p0); exact rfl; exact rfl; exact rfl) | ((first | apply s9 | apply x9 | apply z8 | apply s7 | apply s8 | apply w4 | apply z9 | apply w5)) | ((first | apply w6 | apply z6 | apply z0 | apply p5 | apply y0 | apply z7)))
  (apply zy7; exact rfl; infer_instance; exact rfl; exact Try.ntmps41; exact rfl; intro lp bd Z a1 ha1 hZ)
  repeat' (first | ((first | apply w9 | apply y8 | apply x8 | apply p4); exact rfl; exact rfl) | (apply w7; first | refine u9 (h := ?_) | refine y9 (h := ?_) | refine w8 (h := ?_) | refine q6 (h := ?_) | refine q0 (h := ?_)) | ((first | apply j0 | apply ze5); exact rfl; exact rfl; exact rfl; (constructor <;> omega)) | (apply o9; infer_instance; exact rfl; exact rfl) | ((first | apply s9 | apply x9 | apply z8 | apply s7 | apply s8 | apply w4 | apply z9 | apply w5)) | ((first | apply w6 | apply z6 | apply z0 | apply p5 | apply y0 | apply z7)))
  apply j9 (σ := Int) (Fs := fun j => [(3, .int .i64 j), (0, .func (.yield lp) #[] #[]), (1, ptr bb)])
    (Ls := fun j => ⟨lp, Z .ready none, true⟩ :: ⟨bd, .deferred (some []), true⟩ :: ⟨bb, Ce [.slice ar (Plt.za2 p).length cr] 61, true⟩ :: ⟨b11, Ce [.map (some bm)] 112, true⟩ :: ⟨bm, MO (MM kI kI (Plt.zp8 p.ms)), true⟩ :: (N ++ (⟨b7, Ce [.int .i64 0] 39, true⟩ :: ⟨b6, Ce [.int .u8 0, .int .i64 0, .int .i64 0] 38, true⟩ :: ⟨b5, Ce [.int .i64 t] 3, true⟩ :: ⟨b4, Ce [.int .i64 x] 3, true⟩ :: ⟨b3, Ce [.slice a1_ p.ms.length c1, .slice a2 p.items.length c2, .slice a3 p.passes.length c3] 26, true⟩ :: [])))
    (I := fun j => (-1 ≤ j ∧ j < p.passes.length) ∧ Plt.zE8 p x t p.passes.length = Plt.zE8 p x t (j + 1).toNat) (μ := fun j => (j + 1).toNat) (s0 := ((Plt.za2 p).length : Int) - 1)
  · refine ⟨by omega, ?_⟩
    congr 1; omega
  · exact fS_
  · exact hS_
  rintro j ⟨hj, hlast⟩
  by_cases hj0 : 0 ≤ j
  · obtain ⟨n, rfl⟩ := Int.eq_ofNat_of_zero_le hj0
    have hnl : n < p.passes.length := by omega
    obtain ⟨y, hy⟩ : ∃ y, p.passes[n]? = some y := ⟨_, List.getElem?_eq_getElem hnl⟩
    obtain ⟨r, hr⟩ : ∃ r, (Plt.za2 p)[n]? = some r := ⟨_, List.getElem?_eq_getElem (by omega)⟩
    obtain ⟨d, hd⟩ : ∃ d, rds[n]? = some d := ⟨_, List.getElem?_eq_getElem (by omega)⟩
    obtain ⟨pd, hpd⟩ : ∃ d, ys[n]? = some d := ⟨_, List.getElem?_eq_getElem (by omega)⟩
    have hpv := hpass n pd y hpd hy
    obtain ⟨pid, pma, pre, ⟨v1, w1, u1⟩, ⟨v2, w2, u2⟩, ⟨v3, w3, u3⟩⟩ := pd
    obtain ⟨b, off, cc, e, fz, rfl, hk, hpt⟩ := hop3 (by omega)
    have g1 : ∀ j u, ([.int .i64 pid, .int .i64 pma, .int .i64 pre, .slice v1 w1 u1, .slice v2 w2 u2, .slice v3 w3 u3] : List Value)[j]? = some u → cc[off + n * 6 + j]? = some u := hpt.get hpd
    obtain rfl : pma = y.mach := hpv.mach
    obtain ⟨mj, m, hmj, hmid, hmf, hmr⟩ := hc.mach n y hy
    have hlk : asF y.mach (Plt.zp8 p.ms) = some m.rate := by rw [← hmid]; exact Plt.yr9 hc.nd hmj
    have hrs := Plt.zM6 (stops := Plt.zc0 p.items) (hc.job n y hy)
    have hget := Plt.zD8 hy
    rw [hr] at hget
    rw [← Option.some.inj hget] at hrs
    obtain ⟨hsn, hsb⟩ := hrs
    have hsn : r.slices.length ≤ 100000 := by omega
    have hat : Plt.zu0 p x t n = Plt.zn1 r x m.rate t := by unfold Plt.zu0; rw [hr, hy]; dsimp only; rw [hmf]
    rw [show ((n : Int) + 1).toNat = n + 1 from by omega, Plt.zE8, hat] at hlast
    obtain ⟨rate, hrate0⟩ : ∃ rate, m.rate = rate := ⟨_, rfl⟩
    rw [hrate0] at hlk hlast hmr
    have hrate : 1 ≤ rate ∧ rate ≤ 1000000 := by omega
    obtain ⟨dp, ds', df, ⟨x1, n1, k1⟩, ⟨x2, n2, k2⟩, ⟨x3, n3, k3⟩, ⟨x4, n4, k4⟩, ⟨x5, n5, k5⟩, ⟨x6, n6, k6⟩, ⟨x7, n7, k7⟩⟩ := d
    refine zE2 (p := ∃ b off, ar = some ⟨b, off, none⟩) (fun w' hw' => ?_) ?_
    · obtain ⟨_, _, e1, _, hop⟩ := (hsh _ _ _ _ (by exact rL_) hw').1.open
      simp only [Value.slice.injEq] at e1
      obtain ⟨b, off, _, _, _, e, _⟩ := hop (by omega)
      exact ⟨b, off, e1.1.trans e⟩
    rintro ⟨br, offr, rfl⟩
    cases hso : Plt.zn1 r x rate t with
    | true =>
      rw [hso, if_pos rfl] at hlast
      rw [hlast] at he
      dsimp only at he
      rw [hr] at he
      dsimp only at he
      obtain ⟨hpl, rfl⟩ : Plt.zp5 r x = (kd, ps, nu) ∧ k = 0 := by simp only [Prod.mk.injEq] at he ⊢; exact ⟨by rw [he.1], he.2.symm⟩
      as_aux_lemma =>
        repeat' (first | (apply v8; exact rfl; exact dT_) | (apply zv2; exact rfl; exact eV_; assumption; assumption; exact aT_; exact rfl; exact rfl; (repeat (first | exact RPar.nil | apply RPar.cons)); intro aI haI) | (apply zu5; assumption; exact aT_; exact uP_) | (first | (apply zu7; assumption; exact rfl; assumption; exact aT_; exact uP_) | (apply zj7; assumption; exact rfl; assumption; exact aT_; exact uP_) | (apply zi3; assumption; exact rfl; assumption; exact aT_; exact uP_)) | (first | apply zC3 Try.results41 | apply zv3 Try.results41) | (first | (apply zu6; assumption; assumption; exact aT_; (intro hst; cases hst); exact uP_) | (apply zq3; assumption; assumption; exact aT_; (intro hst; cases hst); exact uP_)) | ((apply zR0 (l := [.int .i64 dp, .int .i64 ds', .int .i64 df, .slice x1 n1 k1, .slice x2 n2 k2, .slice x3 n3 k3, .slice x4 n4 k4, .slice x5 n5 k5, .slice x6 n6 k6, .slice x7 n7 k7])); infer_instance; infer_instance; exact rfl; (intro w' hw' j' v' hj'; exact SV.cell (hsh _ _ _ _ (by exact rL_) hw').1 hd hj'); exact rfl; exact rfl) | ((apply zp7 (κ := kI) (ν := kI) (k := y.mach) (v := rate)); infer_instance; infer_instance; exact rfl; exact rfl; exact sJ_; exact rfl; exact kN_; assumption; assumption; exact rfl) | ((first | ((apply t8 (f := 29)); exact rfl) | ((apply t9 (f := 29)); exact rfl; kernel_rfl; exact rfl; exact sJ_)); exact eV_; exact (fun w hw => zX8 hso hrate hsb hsn w ((hsh _ _ _ _ (by exact rL_) hw).2.2 n _ _ hd hr))) | ((first | ((apply t8 (f := 30)); exact rfl) | ((apply t9 (f := 30)); exact rfl; kernel_rfl; exact rfl; exact sJ_)); exact eV_; exact (fun w hw => yx9 hpl w ((hsh _ _ _ _ (by exact rL_) hw).2.2 n _ _ hd hr))) | ((first | apply w9 | apply y8 | apply x8 | apply p4); exact rfl; exact rfl) | (apply w7; first | refine u9 (h := ?_) | refine y9 (h := ?_) | refine w8 (h := ?_) | refine q6 (h := ?_) | refine q0 (h := ?_)) | ((first | apply p3 | apply o8 | apply d9 | apply l8 | apply p0); exact rfl; exact rfl; exact rfl) | (apply zd5; exact rfl; exact rfl) | ((first | apply o7 | apply c8); exact rfl; intro _) | (apply q7; first | refine q8 (h := ?_) | refine q9 (h := ?_)) | (apply m8; infer_instance; infer_instance; exact rfl; exact rfl; (first | exact rfl | omega); exact rfl; (first | assumption | omega | decide)) | ((first | apply s9 | apply x9 | apply z8 | apply s7 | apply s8 | apply w4 | apply z9 | apply w5)) | (apply v8; exact rfl; exact tT_) | ((first | apply w6 | apply z6 | apply z0 | apply p5 | apply y0 | apply z7)) | ((apply p6 (id := 20) []); kernel_rfl; kernel_rfl) | (apply za6; try simp only [za9, List.cons_append, List.nil_append]) | ((first | apply i9 | apply n9 | apply m5); exact rfl; exact rfl) | ((first | apply zb4); exact rfl; exact rfl) | (apply m0; first | refine k8 (h := ?_) | refine p7 (h := ?_) | refine m6 (h := ?_) | refine d8 (h := ?_) | refine d7 (h := ?_)) | (apply zc3; infer_instance; infer_instance; exact rfl; exact rfl; (first | exact rfl | omega); exact rfl; (first | assumption | omega | decide)))
        (first | (apply zU1; exact aT_; exact uP_; apply zf9 Try.results9; exact rV_; exact rV_; intro w' hw) | (apply zU0; apply zf9 Try.results9; exact rV_; exact rV_; intro w' hw))
        exact ⟨rfl, hw.below (show AO _ by exact aO_)⟩
    | false =>
      rw [hso, if_neg (by simp)] at hlast
      as_aux_lemma =>
        repeat' (first | (apply v8; exact rfl; exact dT_) | (apply zv2; exact rfl; exact eV_; assumption; assumption; exact aT_; exact rfl; exact rfl; (repeat (first | exact RPar.nil | apply RPar.cons)); intro aI haI) | (apply zu5; assumption; exact aT_; exact uP_) | (first | (apply zu7; assumption; exact rfl; assumption; exact aT_; exact uP_) | (apply zj7; assumption; exact rfl; assumption; exact aT_; exact uP_) | (apply zi3; assumption; exact rfl; assumption; exact aT_; exact uP_)) | (first | apply zC3 Try.results41 | apply zv3 Try.results41) | (first | (apply zu6; assumption; assumption; exact aT_; (intro hst; cases hst); exact uP_) | (apply zq3; assumption; assumption; exact aT_; (intro hst; cases hst); exact uP_)) | ((apply zR0 (l := [.int .i64 dp, .int .i64 ds', .int .i64 df, .slice x1 n1 k1, .slice x2 n2 k2, .slice x3 n3 k3, .slice x4 n4 k4, .slice x5 n5 k5, .slice x6 n6 k6, .slice x7 n7 k7])); infer_instance; infer_instance; exact rfl; (intro w' hw' j' v' hj'; exact SV.cell (hsh _ _ _ _ (by exact rL_) hw').1 hd hj'); exact rfl; exact rfl) | ((apply zp7 (κ := kI) (ν := kI) (k := y.mach) (v := rate)); infer_instance; infer_instance; exact rfl; exact rfl; exact sJ_; exact rfl; exact kN_; assumption; assumption; exact rfl) | ((first | ((apply t8 (f := 29)); exact rfl) | ((apply t9 (f := 29)); exact rfl; kernel_rfl; exact rfl; exact sJ_)); exact eV_; exact (fun w hw => zX8 hso hrate hsb hsn w ((hsh _ _ _ _ (by exact rL_) hw).2.2 n _ _ hd hr))) | ((first | apply w9 | apply y8 | apply x8 | apply p4); exact rfl; exact rfl) | (apply w7; first | refine u9 (h := ?_) | refine y9 (h := ?_) | refine w8 (h := ?_) | refine q6 (h := ?_) | refine q0 (h := ?_)) | ((first | apply p3 | apply o8 | apply d9 | apply l8 | apply p0); exact rfl; exact rfl; exact rfl) | (apply zd5; exact rfl; exact rfl) | ((first | apply j0 | apply ze5); exact rfl; exact rfl; exact rfl; (constructor <;> omega)) | ((first | apply o7 | apply c8); exact rfl; intro _) | (apply q7; first | refine q8 (h := ?_) | refine q9 (h := ?_)) | (apply m8; infer_instance; infer_instance; exact rfl; exact rfl; (first | exact rfl | omega); exact rfl; (first | assumption | omega | decide)) | ((first | apply s9 | apply x9 | apply z8 | apply s7 | apply s8 | apply w4 | apply z9 | apply w5)) | (apply v9; exact rfl; exact fF_) | ((first | apply w6 | apply z6 | apply z0 | apply p5 | apply y0 | apply z7)) | ((apply p6 (id := 20) []); kernel_rfl; kernel_rfl) | (apply za6; try simp only [za9, List.cons_append, List.nil_append]) | ((first | apply i9 | apply n9 | apply m5); exact rfl; exact rfl) | ((first | apply zb4); exact rfl; exact rfl) | (apply m0; first | refine k8 (h := ?_) | refine p7 (h := ?_) | refine m6 (h := ?_) | refine d8 (h := ?_) | refine d7 (h := ?_)) | (apply zc3; infer_instance; infer_instance; exact rfl; exact rfl; (first | exact rfl | omega); exact rfl; (first | assumption | omega | decide)))
        refine o0 ((n : Int) - 1) ⟨by omega, by rw [hlast]; congr 1; omega⟩ (by omega) ?_ ?_
        · exact fS_
        · exact hS_
  obtain rfl : j = -1 := by omega
  rw [show ((-1 : Int) + 1).toNat = 0 from rfl, Plt.zE8] at hlast
  rw [hlast] at he
  obtain ⟨⟨yi, ys', yb⟩, hyk⟩ : ∃ y, p.items[k0]? = some y := ⟨_, List.getElem?_eq_getElem hkl⟩
  rw [hyk] at he
  cases he
  obtain ⟨b, off, cc, e, fz, rfl, hk, hpt⟩ := hop2 (by omega)
  have g1 : ∀ j u, ([.int .i64 yi, .int .i64 ys', .int .i64 yb] : List Value)[j]? = some u → cc[off + k0 * 3 + j]? = some u := hpt.get hyk
  as_aux_lemma =>
    repeat' (first | (apply v9; exact rfl; exact dF_) | (apply zv2; exact rfl; exact eV_; assumption; assumption; exact aT_; exact rfl; exact rfl; (repeat (first | exact RPar.nil | apply RPar.cons)); intro aI haI) | (apply zu5; assumption; exact aT_; exact uP_) | (first | (apply zu7; assumption; exact rfl; assumption; exact aT_; exact uP_) | (apply zj7; assumption; exact rfl; assumption; exact aT_; exact uP_) | (apply zi3; assumption; exact rfl; assumption; exact aT_; exact uP_)) | (first | apply zC3 Try.results41 | apply zv3 Try.results41) | (first | (apply zu6; assumption; assumption; exact aT_; (intro hst; cases hst); exact uP_) | (apply zq3; assumption; assumption; exact aT_; (intro hst; cases hst); exact uP_)) | ((first | apply w9 | apply y8 | apply x8 | apply p4); exact rfl; exact rfl) | ((first | apply za7); exact rfl; exact rfl) | (apply w7; first | refine u9 (h := ?_) | refine y9 (h := ?_) | refine w8 (h := ?_) | refine q6 (h := ?_) | refine q0 (h := ?_)) | ((first | apply p3 | apply o8 | apply d9 | apply l8 | apply p0); exact rfl; exact rfl; exact rfl) | (apply q7; first | refine q8 (h := ?_) | refine q9 (h := ?_)) | (apply g7; first | refine a8 (h := ?_)) | (apply m8; infer_instance; infer_instance; exact rfl; exact rfl; (first | exact rfl | omega); exact rfl; (first | assumption | omega | decide)) | ((first | apply s9 | apply x9 | apply z8 | apply s7 | apply s8 | apply w4 | apply z9 | apply w5)) | ((first | apply w6 | apply z6 | apply z0 | apply p5 | apply y0 | apply z7)))
    (first | (apply zU1; exact aT_; exact uP_; apply zf9 Try.results9; exact rV_; exact rV_; intro w' hw) | (apply zU0; apply zf9 Try.results9; exact rV_; exact rV_; intro w' hw))
    exact ⟨rfl, hw.below (show AO _ by exact aO_)⟩
end Go.Proofs.Ytdahckhlfldkkaa
