/- A part of the proofs of this seat: a small logic of walks, plain laws, and what some of the program's functions compute, shown by walks through their code. Conditions: the hypotheses that each theorem names. -/
import Derived.Test.YtdahckhlfldkkaaZPWhere3
import Derived.Test.YtdahckhlfldkkaaZPWhere7
import Derived.Test.YtdahckhlfldkkaaZPWhere4
set_option linter.unusedSimpArgs false
set_option linter.unusedVariables false
set_option linter.unusedSectionVars false
namespace Go.Sx.Plt
def zn5 (x : Int) : List Int → Option Nat
  | [] => none
  | a :: r => if a = x then some 0 else (zn5 x r).map (· + 1)
theorem zs9 {x : Int} : ∀ {l : List Int}, zn5 x l = none ↔ x ∉ l
  | [] => by simp [zn5]
  | a :: r => by
    rw [zn5]
    by_cases h : a = x
    · simp [h]
    · have h' : ¬ x = a := fun e => h e.symm
      simp [h, h', zs9 (l := r)]
theorem zO2 {x : Int} : ∀ {l : List Int} {i : Nat}, (∀ j, j < i → l[j]? ≠ some x) → l[i]? = some x → zn5 x l = some i
  | [], i, _, h => by simp at h
  | a :: r, 0, _, h => by simp at h; simp [zn5, h]
  | a :: r, i + 1, hn, h => by
    have h0 : a ≠ x := fun e => hn 0 (by omega) (by simp [e])
    rw [zn5, if_neg h0, zO2 (i := i) (fun j hj => by have := hn (j + 1) (by omega); simpa using this) (by simpa using h)]; rfl
theorem zp8 {x : Int} : ∀ {l : List Int} {i : Nat}, zn5 x l = some i → l[i]? = some x ∧ ∀ j, j < i → l[j]? ≠ some x
  | [], i, h => by simp [zn5] at h
  | a :: r, i, h => by
    rw [zn5] at h
    by_cases e : a = x
    · rw [if_pos e] at h; cases h; exact ⟨by simp [e], fun j hj => by omega⟩
    · rw [if_neg e] at h
      cases hr : zn5 x r with
      | none => rw [hr] at h; cases h
      | some k =>
        rw [hr] at h
        simp at h
        subst h
        obtain ⟨h1, h2⟩ := zp8 hr
        refine ⟨by simpa using h1, fun j hj => ?_⟩
        cases j with
        | zero => simp [e]
        | succ j => simpa using h2 j (by omega)
def zu7 (x : Int) (l : List Int) : Int := match zn5 x l with | none => -1 | some i => i
def zN9 (x : Int) : Nat → List (List Int) → Option Nat
  | _, [] => none
  | k, l :: r => if x ∈ l then some k else zN9 x (k + 1) r
def zq0 (r : Run) (x : Int) : Int × Int × Int :=
  match zN9 x 0 r.res.stackers with
  | some k => (2, r.pass, k)
  | none => if x ∈ r.res.over then (3, r.pass, 0) else (4, r.pass, 0)
def zg1 : List (Int × Int) → Int → Option Int
  | [], _ => none
  | s :: r, n => if n < s.2 - s.1 then some (s.1 + n) else zg1 r (n - (s.2 - s.1))
def zn4 (r : Run) (x rate t : Int) : Bool := match zn5 x r.items with
  | none => false
  | some i => match zg1 r.slices ((i : Int) / rate) with
    | none => false
    | some m => decide (m < t)
end Go.Sx.Plt
namespace Go.Sx
open Go Go.RowKit
section
variable {r : Option Nat} {P : Program} {n : Nat} {D : List Deferred} {w0 : World} {F : List (Nat × Value)} {L L' : List Ent} {Q : Exit → Act → World → Prop} {ops : Array Oper}
variable {d : Tmp} {ty : TypeId} {pos : String} {af : Array Edge} {rest : List Oper}
end
end Go.Sx
namespace Go.Proofs.Ytdahckhlfldkkaa
open Go Go.Sx Go.RowKit
attribute [local irreducible] WL WC WQ WR WB WF QB St Exit.then Exit.inBlock Exit.noGoto bodyPost roundPost zc9 YR RG BM Calls B zd4 zf2
theorem zM6 {v : Value} {l : List Int} (x : Int) (w : World) (h : SV w 1 encI v l) : Calls Try.prog 42 #[v, .int .i64 x] w fun e w' => e = .returned (.int .i64 (Plt.zu7 x l)) ∧ Below w.heap.size w w' := by
  obtain ⟨a0, c0, rfl, hc, hop⟩ := h.open
  refine za6 Try.func42 rfl Try.ntmps42 rfl (Rep.start w) ?_
  repeat' (first | ((first | apply w9 | apply y8); exact rfl; exact rfl) | (apply n8; infer_instance; exact rfl; exact rfl) | ((first | apply s9 | apply x8 | apply z8 | apply s7 | apply s8 | apply w4 | apply z9 | apply w5)) | ((first | apply w6 | apply z6 | apply z0 | apply p7 | apply y0 | apply z7)))
  apply i9 (σ := Nat) (Fs := fun i => [(8, .int .i64 i), (7, .int .i64 l.length), (0, .slice a0 l.length c0), (1, .int .i64 x)]) (Ls := fun i => []) (I := fun i => i ≤ l.length ∧ ∀ j, j < i → l[j]? ≠ some x) (μ := fun i => l.length - i) (s0 := 0)
  · exact ⟨Nat.zero_le _, fun j hj => by omega⟩
  · exact fS_
  · exact hS_
  rintro i ⟨hi, hno⟩
  by_cases hlt : i < l.length
  · obtain ⟨y, hx⟩ : ∃ y, l[i]? = some y := ⟨_, List.getElem?_eq_getElem hlt⟩
    obtain ⟨b, off, cc, e, fz, rfl, hk, hp⟩ := hop (by omega)
    have g1 := hp.one hx rfl
    by_cases hxy : x = y
    · subst hxy
      have e1 : Plt.zu7 x l = (i : Int) := by unfold Plt.zu7; rw [Plt.zO2 hno hx]
      rw [e1]
      as_aux_lemma =>
        repeat' (first | (apply v8; exact rfl; exact dT_) | ((first | apply w9 | apply y8); exact rfl; exact rfl) | (apply w7; first | refine u9 (h := ?_) | refine y9 (h := ?_) | refine w8 (h := ?_) | refine q7 (h := ?_) | refine q6 (h := ?_)) | ((first | apply p4 | apply m9); exact rfl; exact rfl; exact rfl) | (apply l0; infer_instance; infer_instance; exact rfl; exact rfl; (first | exact rfl | omega); exact rfl; (first | assumption | omega | decide)) | ((first | apply s9 | apply x8 | apply z8 | apply s7 | apply s8 | apply w4 | apply z9 | apply w5)) | ((first | apply w6 | apply z6 | apply z0 | apply p7 | apply y0 | apply z7)))
        apply o0; apply za8 Try.results42; exact rV_; intro w' hw
        exact ⟨rfl, hw.below (by simp)⟩
    · have hno2 : ∀ j, j < i + 1 → l[j]? ≠ some x := fun j hj => by
        by_cases hji : j = i
        · subst hji; rw [hx]; intro e; cases e; exact hxy rfl
        · exact hno j (by omega)
      as_aux_lemma =>
        repeat' (first | (apply v8; exact rfl; exact dT_) | (apply v9; exact rfl; exact dF_) | ((first | apply w9 | apply y8); exact rfl; exact rfl) | (apply w7; first | refine u9 (h := ?_) | refine y9 (h := ?_) | refine w8 (h := ?_) | refine q7 (h := ?_) | refine q6 (h := ?_)) | ((first | apply p4 | apply m9); exact rfl; exact rfl; exact rfl) | (apply j8; exact rfl; exact rfl; exact rfl; (constructor <;> omega)) | (apply l0; infer_instance; infer_instance; exact rfl; exact rfl; (first | exact rfl | omega); exact rfl; (first | assumption | omega | decide)) | ((first | apply s9 | apply x8 | apply z8 | apply s7 | apply s8 | apply w4 | apply z9 | apply w5)) | ((first | apply w6 | apply z6 | apply z0 | apply p7 | apply y0 | apply z7)))
        refine o9 (i + 1) ⟨by omega, hno2⟩ (by omega) ?_ ?_
        · exact fS_
        · exact hS_
  obtain rfl : i = l.length := by omega
  have e1 : Plt.zu7 x l = -1 := by
    unfold Plt.zu7
    rw [Plt.zs9.2 (fun hm => by obtain ⟨j, hj⟩ := List.getElem?_of_mem hm; exact hno j (List.getElem?_eq_some_iff.1 hj).1 hj)]
  rw [e1]
  repeat' (first | (apply v9; exact rfl; exact dF_) | ((first | apply w9 | apply y8); exact rfl; exact rfl) | ((first | apply p4 | apply m9); exact rfl; exact rfl; exact rfl) | ((first | apply s9 | apply x8 | apply z8 | apply s7 | apply s8 | apply w4 | apply z9 | apply w5)) | ((first | apply w6 | apply z6 | apply z0 | apply p7 | apply y0 | apply z7)))
  apply o0; apply za8 Try.results42; exact rV_; intro w' hw
  exact ⟨rfl, hw.below (by simp)⟩
theorem zP3 {v : Value} {l : List Int} (x : Int) (w : World) (h : SV w 1 encI v l) : Calls Try.prog 44 #[v, .int .i64 x] w fun e w' => e = .returned (.bool (decide (x ∈ l))) ∧ Below w.heap.size w w' := by
  have hd : decide (x ∈ l) = decide (Plt.zu7 x l ≥ 0) := by
    unfold Plt.zu7
    cases hx : Plt.zn5 x l with
    | none => rw [decide_eq_false (Plt.zs9.1 hx)]; rfl
    | some i =>
      have := (Plt.zp8 hx).1
      rw [decide_eq_true (List.mem_of_getElem? this)]
      simp
  rw [hd]
  refine za6 Try.func44 rfl Try.ntmps44 rfl (Rep.start w) ?_
  repeat' (first | ((first | ((apply t8 (f := 42)); exact rfl) | ((apply t9 (f := 42)); exact rfl; kernel_rfl; exact rfl; exact sJ_)); exact eV_; exact (fun w hw => zM6 x w (h.keep hw (by exact aO_)))) | ((first | apply w9 | apply y8); exact rfl; exact rfl) | (apply d9; exact rfl; exact rfl; exact rfl) | ((first | apply s9 | apply x8 | apply z8 | apply s7 | apply s8 | apply w4 | apply z9 | apply w5)) | ((first | apply w6 | apply z6 | apply z0 | apply p7 | apply y0 | apply z7)))
  apply o0; apply za8 Try.results44; exact rV_; intro w' hw
  exact ⟨rfl, hw.below (by simp)⟩
theorem zu8 {v : Value} {l : List Int} {x : Int} {b : Bool} (hb : decide (x ∈ l) = b) (w : World) (h : SV w 1 encI v l) : Calls Try.prog 44 #[v, .int .i64 x] w fun e w' => e = .returned (.bool b) ∧ Below w.heap.size w w' := by
  subst hb; exact zP3 x w h
set_option maxHeartbeats 4000000 in
theorem yd8 {d : RD} {r : Plt.Run} {x : Int} {kd ps nu : Int} (he : Plt.zq0 r x = (kd, ps, nu)) (w : World) (h : RunV w d r) : Calls Try.prog 30 #[zA7 d, .int .i64 x] w fun e w' => e = .returned (.agg #[.int .u8 kd, .int .i64 ps, .int .i64 nu]) ∧ Below w.heap.size w w' := by
  obtain ⟨hp, -, -, hI, hS, ⟨ss, h1, h2⟩, hO, hR⟩ := h
  obtain ⟨dp, ds, df, ⟨a1, n1, c1⟩, ⟨a2, n2, c2⟩, ⟨a3, n3, c3⟩, ⟨a4, n4, c4⟩, ⟨a5, n5, c5⟩, ⟨a6, n6, c6⟩, ⟨a7, n7, c7⟩⟩ := d
  unfold zA7
  dsimp only [sdV] at hp hI hS h1 hO hR ⊢
  subst hp
  obtain ⟨_, _, e1, hc1, hop1⟩ := h1.open
  cases e1
  have hsl := h2.1
  unfold Plt.zq0 at he
  refine za6 Try.func30 rfl Try.ntmps30 rfl (Rep.start w) ?_
  repeat' (first | ((first | apply w9 | apply y8 | apply x9); exact rfl; exact rfl) | (apply za9; exact rfl; exact rfl) | (apply w7; first | refine u9 (h := ?_) | refine y9 (h := ?_) | refine w8 (h := ?_) | refine q7 (h := ?_) | refine q6 (h := ?_)) | (apply o8; exact rfl; intro _) | (apply zc3; exact rfl; exact rfl; exact rfl; intro _) | (apply n8; infer_instance; exact rfl; exact rfl) | ((first | apply s9 | apply x8 | apply z8 | apply s7 | apply s8 | apply w4 | apply z9 | apply w5)) | ((first | apply w6 | apply z6 | apply z0 | apply p7 | apply y0 | apply z7)))
  rename_i b2 b4
  apply i9 (σ := Nat) (Fs := fun i => [(11, .int .i64 i), (10, .int .i64 ss.length), (9, .slice a3 ss.length c3), (4, ptr b4), (2, ptr b2), (1, .int .i64 x)])
    (Ls := fun i => [⟨b4, Ce [.int .u8 0, .int .i64 0, .int .i64 0] 38, true⟩, ⟨b2, Ce [.int .i64 r.pass, .int .i64 ds, .int .i64 df, .slice a1 n1 c1, .slice a2 n2 c2, .slice a3 ss.length c3, .slice a4 n4 c4, .slice a5 n5 c5, .slice a6 n6 c6, .slice a7 n7 c7] 74, true⟩])
    (I := fun i => i ≤ ss.length ∧ Plt.zN9 x 0 r.res.stackers = Plt.zN9 x i (r.res.stackers.drop i)) (μ := fun i => ss.length - i) (s0 := 0)
  · exact ⟨Nat.zero_le _, rfl⟩
  · exact fS_
  · exact hS_
  rintro i ⟨hi, hst⟩
  by_cases hlt : i < ss.length
  · obtain ⟨⟨sa, sn, sc⟩, hx⟩ : ∃ s, ss[i]? = some s := ⟨_, List.getElem?_eq_getElem hlt⟩
    obtain ⟨l, hy⟩ : ∃ l, r.res.stackers[i]? = some l := ⟨_, List.getElem?_eq_getElem (by omega)⟩
    have hsv := h2.2 i _ _ hx hy
    dsimp only [sdV] at hsv
    obtain ⟨b, off, cc, e, fz, rfl, hk, hpt⟩ := hop1 (by omega)
    have g1 : cc[off + i * 1]? = some (.slice sa sn sc) := hpt.one hx rfl
    rw [drop_at hy, Plt.zN9] at hst
    cases hb : decide (x ∈ l) with
    | true =>
      rw [if_pos (of_decide_eq_true hb)] at hst
      rw [hst] at he
      cases he
      as_aux_lemma =>
        repeat' (first | (apply v8; exact rfl; exact dT_) | ((first | ((apply t8 (f := 44)); exact rfl) | ((apply t9 (f := 44)); exact rfl; kernel_rfl; exact rfl; exact sJ_)); exact eV_; exact (fun w hw => zu8 hb w (hsv.keep hw (by exact aO_)))) | ((first | apply w9 | apply y8 | apply x9); exact rfl; exact rfl) | (apply w7; first | refine u9 (h := ?_) | refine y9 (h := ?_) | refine w8 (h := ?_) | refine q7 (h := ?_) | refine q6 (h := ?_)) | (apply p4; exact rfl; exact rfl; exact rfl) | (apply q8; first | refine q9 (h := ?_) | refine p3 (h := ?_)) | (apply g7; first | refine a8 (h := ?_)) | (apply l0; infer_instance; infer_instance; exact rfl; exact rfl; (first | exact rfl | omega); exact rfl; (first | assumption | omega | decide)) | ((first | apply s9 | apply x8 | apply z8 | apply s7 | apply s8 | apply w4 | apply z9 | apply w5)) | (apply v8; exact rfl; exact tT_) | ((first | apply w6 | apply z6 | apply z0 | apply p7 | apply y0 | apply z7)))
        apply o0; apply za8 Try.results30; exact rV_; intro w' hw
        exact ⟨rfl, hw.below (by simp)⟩
    | false =>
      rw [if_neg (of_decide_eq_false hb)] at hst
      as_aux_lemma =>
        repeat' (first | (apply v8; exact rfl; exact dT_) | ((first | ((apply t8 (f := 44)); exact rfl) | ((apply t9 (f := 44)); exact rfl; kernel_rfl; exact rfl; exact sJ_)); exact eV_; exact (fun w hw => zu8 hb w (hsv.keep hw (by exact aO_)))) | ((first | apply w9 | apply y8 | apply x9); exact rfl; exact rfl) | (apply w7; first | refine u9 (h := ?_) | refine y9 (h := ?_) | refine w8 (h := ?_) | refine q7 (h := ?_) | refine q6 (h := ?_)) | (apply p4; exact rfl; exact rfl; exact rfl) | (apply j8; exact rfl; exact rfl; exact rfl; (constructor <;> omega)) | (apply l0; infer_instance; infer_instance; exact rfl; exact rfl; (first | exact rfl | omega); exact rfl; (first | assumption | omega | decide)) | ((first | apply s9 | apply x8 | apply z8 | apply s7 | apply s8 | apply w4 | apply z9 | apply w5)) | (apply v9; exact rfl; exact fF_) | ((first | apply w6 | apply z6 | apply z0 | apply p7 | apply y0 | apply z7)))
        refine o9 (i + 1) ⟨by omega, hst⟩ (by omega) ?_ ?_
        · exact fS_
        · exact hS_
  obtain rfl : i = ss.length := by omega
  rw [hsl, List.drop_length, Plt.zN9] at hst
  rw [hst] at he
  dsimp only at he
  cases hb : decide (x ∈ r.res.over) with
  | true =>
    rw [if_pos (of_decide_eq_true hb)] at he
    cases he
    as_aux_lemma =>
      repeat' (first | (apply v9; exact rfl; exact dF_) | ((first | ((apply t8 (f := 44)); exact rfl) | ((apply t9 (f := 44)); exact rfl; kernel_rfl; exact rfl; exact sJ_)); exact eV_; exact (fun w hw => zu8 hb w (hO.keep hw (by exact aO_)))) | ((first | apply w9 | apply y8 | apply x9); exact rfl; exact rfl) | (apply za9; exact rfl; exact rfl) | (apply w7; first | refine u9 (h := ?_) | refine y9 (h := ?_) | refine w8 (h := ?_) | refine q7 (h := ?_) | refine q6 (h := ?_)) | (apply p4; exact rfl; exact rfl; exact rfl) | (apply q8; first | refine q9 (h := ?_) | refine p3 (h := ?_)) | (apply g7; first | refine a8 (h := ?_)) | ((first | apply s9 | apply x8 | apply z8 | apply s7 | apply s8 | apply w4 | apply z9 | apply w5)) | (apply v8; exact rfl; exact tT_) | ((first | apply w6 | apply z6 | apply z0 | apply p7 | apply y0 | apply z7)))
      apply o0; apply za8 Try.results30; exact rV_; intro w' hw
      exact ⟨rfl, hw.below (by simp)⟩
  | false =>
    rw [if_neg (of_decide_eq_false hb)] at he
    cases he
    as_aux_lemma =>
      repeat' (first | (apply v9; exact rfl; exact dF_) | ((first | ((apply t8 (f := 44)); exact rfl) | ((apply t9 (f := 44)); exact rfl; kernel_rfl; exact rfl; exact sJ_)); exact eV_; exact (fun w hw => zu8 hb w (hO.keep hw (by exact aO_)))) | ((first | apply w9 | apply y8 | apply x9); exact rfl; exact rfl) | (apply za9; exact rfl; exact rfl) | (apply w7; first | refine u9 (h := ?_) | refine y9 (h := ?_) | refine w8 (h := ?_) | refine q7 (h := ?_) | refine q6 (h := ?_)) | (apply p4; exact rfl; exact rfl; exact rfl) | (apply q8; first | refine q9 (h := ?_) | refine p3 (h := ?_)) | (apply g7; first | refine a8 (h := ?_)) | ((first | apply s9 | apply x8 | apply z8 | apply s7 | apply s8 | apply w4 | apply z9 | apply w5)) | (apply v9; exact rfl; exact fF_) | ((first | apply w6 | apply z6 | apply z0 | apply p7 | apply y0 | apply z7)))
      apply o0; apply za8 Try.results30; exact rV_; intro w' hw
      exact ⟨rfl, hw.below (by simp)⟩
end Go.Proofs.Ytdahckhlfldkkaa
namespace Go.Sx.Plt
theorem yd4 {l : List (Int × Int)} {i : Nat} {s : Int × Int} {q : Int} (hx : l[i]? = some s) (h : zg1 l q = zg1 (l.drop i) (q - zb6 (l.take i))) (hq : zb6 (l.take (i + 1)) ≤ q) : zg1 l q = zg1 (l.drop (i + 1)) (q - zb6 (l.take (i + 1))) := by
  have hs := zL8 hx
  obtain ⟨hlt, rfl⟩ := List.getElem?_eq_some_iff.1 hx
  rw [h, ← List.getElem_cons_drop (h := hlt), zg1, if_neg (by omega)]
  congr 1
  omega
theorem yj5 {l : List (Int × Int)} {i : Nat} {s : Int × Int} {q : Int} (hx : l[i]? = some s) (h : zg1 l q = zg1 (l.drop i) (q - zb6 (l.take i))) (hq : q - zb6 (l.take i) < s.2 - s.1) : zg1 l q = some (s.1 + (q - zb6 (l.take i))) := by
  obtain ⟨hlt, rfl⟩ := List.getElem?_eq_some_iff.1 hx
  rw [h, ← List.getElem_cons_drop (h := hlt), zg1, if_pos hq]
end Go.Sx.Plt
namespace Go.Proofs.Ytdahckhlfldkkaa
open Go Go.Sx Go.RowKit
attribute [local irreducible] WL WC WQ WR WB WF QB St Exit.then Exit.inBlock Exit.noGoto bodyPost roundPost zc9 YR RG BM Calls B zd4 zf2
theorem yd0 {v : Value} {l : List Int} {x z : Int} (hz : Plt.zu7 x l = z) (w : World) (h : SV w 1 encI v l) : Calls Try.prog 42 #[v, .int .i64 x] w fun e w' => e = .returned (.int .i64 z) ∧ Below w.heap.size w w' := by
  subst hz; exact zM6 x w h
set_option maxHeartbeats 4000000 in
theorem ya3 {d : RD} {r : Plt.Run} {x rate t : Int} (hrate : 1 ≤ rate ∧ rate ≤ 1000000) (hb : ∀ s ∈ r.slices, 0 ≤ s.1 ∧ s.1 ≤ s.2 ∧ s.2 ≤ 1051898399) (hn : r.slices.length ≤ 100000) (w : World) (h : RunV w d r) :
    Calls Try.prog 29 #[zA7 d, .int .i64 x, .int .i64 rate, .int .i64 t] w fun e w' => e = .returned (.bool (Plt.zn4 r x rate t)) ∧ Below w.heap.size w w' := by
  obtain ⟨hp, -, -, hI, hS, -, -, -⟩ := h
  obtain ⟨dp, ds, df, ⟨xa1, n1, c1⟩, ⟨a2, n2, c2⟩, ⟨a3, n3, c3⟩, ⟨a4, n4, c4⟩, ⟨a5, n5, c5⟩, ⟨a6, n6, c6⟩, ⟨a7, n7, c7⟩⟩ := d
  unfold zA7
  dsimp only [sdV] at hp hI hS ⊢
  subst hp
  obtain ⟨_, _, e1, hc1, -⟩ := hI.open
  cases e1
  obtain ⟨_, _, e2, hc2, hop⟩ := hS.open
  cases e2
  have hll := Plt.zl7 r.pass r.slices
  cases hi : Plt.zn5 x r.items with
  | none =>
    have hz : Plt.zu7 x r.items = -1 := by unfold Plt.zu7; rw [hi]
    have e : Plt.zn4 r x rate t = false := by unfold Plt.zn4; rw [hi]
    rw [e]
    refine zV4 Try.func29 rfl Try.ntmps29 rfl (Rep.start w) ?_
    repeat' (first | (apply v8; exact rfl; exact dT_) | ((first | ((apply t8 (f := 42)); exact rfl) | ((apply t9 (f := 42)); exact rfl; kernel_rfl; exact rfl; exact sJ_)); exact eV_; exact (fun w hw => yd0 hz w (hI.keep hw (by exact aO_)))) | ((first | apply w9 | apply y8 | apply x9); exact rfl; exact rfl) | (apply w7; first | refine u9 (h := ?_) | refine y9 (h := ?_) | refine w8 (h := ?_) | refine q7 (h := ?_) | refine q6 (h := ?_)) | ((first | apply p4 | apply m9); exact rfl; exact rfl; exact rfl) | (apply o8; exact rfl; intro _) | (apply zc3; exact rfl; exact rfl; exact rfl; intro _) | (apply q8; first | refine q9 (h := ?_) | refine p3 (h := ?_)) | ((first | apply s9 | apply x8 | apply z8 | apply s7 | apply s8 | apply w4 | apply z9 | apply w5)) | ((first | apply w6 | apply z6 | apply z0 | apply p7 | apply y0 | apply z7)))
    (first | (apply zU0; exact aT_; exact uP_; apply za8 Try.results29; exact rV_; intro w' hw) | (apply zT9; apply za8 Try.results29; exact rV_; intro w' hw))
    exact ⟨rfl, hw.below (by simp)⟩
  | some i0 =>
  have hil := (List.getElem?_eq_some_iff.1 (Plt.zp8 hi).1).1
  have hz : Plt.zu7 x r.items = (i0 : Int) := by unfold Plt.zu7; rw [hi]
  obtain ⟨q, hq⟩ : ∃ q, (i0 : Int) / rate = q := ⟨_, rfl⟩
  have hq0 : 0 ≤ q := by rw [← hq]; exact Int.ediv_nonneg (by omega) (by omega)
  have e : Plt.zn4 r x rate t = match Plt.zg1 r.slices q with
    | none => false
    | some m => decide (m < t) := by unfold Plt.zn4; rw [hi]; simp only; rw [hq]; (try (cases Plt.zg1 r.slices q <;> rfl))
  rw [e]
  clear e
  obtain ⟨ix, hix⟩ : ∃ ix : Int, (i0 : Int) = ix := ⟨_, rfl⟩
  have hixb : 0 ≤ ix ∧ ix ≤ 9223372036854775807 := by omega
  rw [hix] at hz hq
  refine zV4 Try.func29 rfl Try.ntmps29 rfl (Rep.start w) ?_
  repeat' (first | (apply v9; exact rfl; exact dF_) | ((first | ((apply t8 (f := 42)); exact rfl) | ((apply t9 (f := 42)); exact rfl; kernel_rfl; exact rfl; exact sJ_)); exact eV_; exact (fun w hw => yd0 hz w (hI.keep hw (by exact aO_)))) | ((first | ((apply d7 (f := 43)); exact rfl) | ((apply d8 (f := 43)); exact rfl; exact rfl; exact sJ_)); exact eV_; exact (fun w _ => zE8 _ _ _ w); rintro v N ⟨b1, rfl, rfl⟩ <;> (try simp only [List.cons_append, List.nil_append])) | ((first | apply w9 | apply y8 | apply x9); exact rfl; exact rfl) | (apply w7; first | refine u9 (h := ?_) | refine y9 (h := ?_) | refine w8 (h := ?_) | refine q7 (h := ?_) | refine q6 (h := ?_)) | ((first | apply p4 | apply m9); exact rfl; exact rfl; exact rfl) | (apply o8; exact rfl; intro _) | (apply zc3; exact rfl; exact rfl; exact rfl; intro _) | (apply q8; first | refine q9 (h := ?_) | refine p3 (h := ?_)) | ((first | apply s9 | apply x8 | apply z8 | apply s7 | apply s8 | apply w4 | apply z9 | apply w5)) | ((first | apply w6 | apply z6 | apply z0 | apply p7 | apply y0 | apply z7)))
  rename_i b4 b6 b7 b8 b9
  (apply zy8; exact rfl; infer_instance; exact rfl; exact Try.ntmps58; exact rfl; intro lp bd Z a1 ha1 hZ)
  repeat' (first | ((first | apply w9 | apply y8 | apply x9 | apply p6); exact rfl; exact rfl) | (apply w7; first | refine u9 (h := ?_) | refine y9 (h := ?_) | refine w8 (h := ?_) | refine q7 (h := ?_) | refine q6 (h := ?_)) | (apply n8; infer_instance; exact rfl; exact rfl) | ((first | apply s9 | apply x8 | apply z8 | apply s7 | apply s8 | apply w4 | apply z9 | apply w5)) | ((first | apply w6 | apply z6 | apply z0 | apply p7 | apply y0 | apply z7)))
  apply i9 (σ := Nat) (Fs := fun i => [(9, .int .i64 i), (8, .int .i64 (Plt.zd8 r.pass r.slices).length), (7, .slice a2 (Plt.zd8 r.pass r.slices).length c2), (3, .int .i64 (Plt.zb6 (r.slices.take i))), (0, .func (.yield lp) #[] #[]), (1, ptr b1)])
    (Ls := fun i => [⟨lp, Z .ready none, true⟩, ⟨bd, .deferred (some []), true⟩, ⟨b1, Ce [.slice a2 (Plt.zd8 r.pass r.slices).length c2] 68, true⟩, ⟨b9, Ce [.int .i64 ix] 3, true⟩, ⟨b8, Ce [.bool false] 4, true⟩, ⟨b7, Ce [.int .i64 t] 3, true⟩, ⟨b6, Ce [.int .i64 rate] 3, true⟩, ⟨b4, Ce [.int .i64 r.pass, .int .i64 ds, .int .i64 df, .slice xa1 r.items.length c1, .slice a2 (Plt.zd8 r.pass r.slices).length c2, .slice a3 n3 c3, .slice a4 n4 c4, .slice a5 n5 c5, .slice a6 n6 c6, .slice a7 n7 c7] 74, true⟩])
    (I := fun i => i ≤ r.slices.length ∧ Plt.zb6 (r.slices.take i) ≤ q ∧ Plt.zg1 r.slices q = Plt.zg1 (r.slices.drop i) (q - Plt.zb6 (r.slices.take i))) (μ := fun i => r.slices.length - i) (s0 := 0)
  · exact ⟨Nat.zero_le _, by simpa [Plt.zb6] using hq0, by simp [Plt.zb6]⟩
  · exact fS_
  · exact hS_
  rintro i ⟨hi2, hspq, hmq⟩
  have hsb := Plt.yo5 (l := r.slices.take i) fun s hs => hb s (List.mem_of_mem_take hs)
  have hsb0 := Plt.zN2 (l := r.slices.take i) fun s hs => (hb s (List.mem_of_mem_take hs)).2.1
  have htl : ((r.slices.take i).length : Int) ≤ 100000 := by rw [List.length_take]; omega
  by_cases hlt : i < r.slices.length
  · obtain ⟨⟨f, u⟩, hx⟩ : ∃ s, r.slices[i]? = some s := ⟨_, List.getElem?_eq_getElem hlt⟩
    have hfu := hb _ (List.mem_of_getElem? hx)
    dsimp only at hfu
    obtain ⟨bs, os, cc, e, fz, rfl, hk, hpt⟩ := hop (by omega)
    have g1 : ∀ j v, ([.int .i64 r.pass, .int .i64 f, .int .i64 u] : List Value)[j]? = some v → cc[os + i * 3 + j]? = some v := hpt.get (zJ2 hx)
    have hst := Plt.zL8 hx
    have hhit := Plt.yj5 hx hmq
    have hnext := Plt.yd4 hx hmq
    dsimp only at hst hhit
    rw [hst] at hnext
    have hst' := hst
    generalize Plt.zb6 (r.slices.take i) = n at hsb hsb0 hst hhit hspq hnext hst' ⊢
    clear hmq
    repeat' (first | ((first | apply w9 | apply y8 | apply x9 | apply p6); exact rfl; exact rfl) | (apply w7; first | refine u9 (h := ?_) | refine y9 (h := ?_) | refine w8 (h := ?_) | refine q7 (h := ?_) | refine q6 (h := ?_)) | ((first | apply p4 | apply m9); exact rfl; exact rfl; exact rfl) | (apply o8; exact rfl; intro _) | (apply q8; first | refine q9 (h := ?_) | refine p3 (h := ?_)) | (apply l0; infer_instance; infer_instance; exact rfl; exact rfl; (first | exact rfl | omega); exact rfl; (first | assumption | omega | decide)) | ((first | apply s9 | apply x8 | apply z8 | apply s7 | apply s8 | apply w4 | apply z9 | apply w5)) | (apply v8; exact rfl; exact tT_) | ((first | apply w6 | apply z6 | apply z0 | apply p7 | apply y0 | apply z7)))
    rename_i b5
    apply i9 (σ := Int) (Fs := fun m => [(6, .int .i64 m), (5, ptr b5), (9, .int .i64 i), (8, .int .i64 (Plt.zd8 r.pass r.slices).length), (7, .slice (some ⟨bs, os, none⟩) (Plt.zd8 r.pass r.slices).length c2), (3, .int .i64 (n + (m - f))), (0, .func (.yield lp) #[] #[]), (1, ptr b1)])
      (Ls := fun m => [⟨b5, Ce [.int .i64 r.pass, .int .i64 f, .int .i64 u] 76, true⟩, ⟨lp, Z .ready none, true⟩, ⟨bd, .deferred (some []), true⟩, ⟨b1, Ce [.slice (some ⟨bs, os, none⟩) (Plt.zd8 r.pass r.slices).length c2] 68, true⟩, ⟨b9, Ce [.int .i64 ix] 3, true⟩, ⟨b8, Ce [.bool false] 4, true⟩, ⟨b7, Ce [.int .i64 t] 3, true⟩, ⟨b6, Ce [.int .i64 rate] 3, true⟩, ⟨b4, Ce [.int .i64 r.pass, .int .i64 ds, .int .i64 df, .slice xa1 r.items.length c1, .slice (some ⟨bs, os, none⟩) (Plt.zd8 r.pass r.slices).length c2, .slice a3 n3 c3, .slice a4 n4 c4, .slice a5 n5 c5, .slice a6 n6 c6, .slice a7 n7 c7] 74, true⟩])
      (I := fun m => (f ≤ m ∧ m ≤ u) ∧ n + (m - f) ≤ q) (μ := fun m => (u - m).toNat) (s0 := f)
    · exact ⟨by omega, by omega⟩
    · (try dsimp only); rw [show n + (f - f) = n from by omega]; exact fS_
    · exact hS_
    rintro m ⟨⟨hm1, hm2⟩, hmq2⟩
    by_cases hmu : m < u
    · have es : n + (m - f) + 1 = n + (m + 1 - f) := by omega
      by_cases hhq : n + (m - f) = q
      · have hres : Plt.zg1 r.slices q = some m := by rw [hhit (by omega)]; congr 1; omega
        rw [hres]
        as_aux_lemma =>
          repeat' (first | (apply v8; exact rfl; exact dT_) | ((apply zR2 (v := q)); exact rfl; exact rfl; exact hq; omega; exact rfl) | (apply zv5; exact rfl; exact eV_; assumption; assumption; exact aT_; exact rfl; exact rfl; (repeat (first | exact RPar.nil | apply RPar.cons)); intro aI haI) | (apply zu9; assumption; exact aT_; exact uP_) | (first | (apply zv1; assumption; exact rfl; assumption; exact aT_; exact uP_) | (apply zj4; assumption; exact rfl; assumption; exact aT_; exact uP_) | (apply zi0; assumption; exact rfl; assumption; exact aT_; exact uP_)) | (first | apply zC5 Try.results58 | apply zv6 Try.results58) | (first | (apply zv0; assumption; assumption; exact aT_; (intro hst; cases hst); exact uP_) | (apply zq9; assumption; assumption; exact aT_; (intro hst; cases hst); exact uP_)) | ((first | apply w9 | apply y8 | apply x9 | apply p6); exact rfl; exact rfl) | (apply w7; first | refine u9 (h := ?_) | refine y9 (h := ?_) | refine w8 (h := ?_) | refine q7 (h := ?_) | refine q6 (h := ?_)) | ((first | apply p4 | apply m9); exact rfl; exact rfl; exact rfl) | (apply zd7; exact rfl; exact rfl) | (apply q8; first | refine q9 (h := ?_) | refine p3 (h := ?_)) | ((first | apply s9 | apply x8 | apply z8 | apply s7 | apply s8 | apply w4 | apply z9 | apply w5)) | (apply v8; exact rfl; exact tT_) | ((first | apply w6 | apply z6 | apply z0 | apply p7 | apply y0 | apply z7)))
          (first | (apply zU0; exact aT_; exact uP_; apply za8 Try.results29; exact rV_; intro w' hw) | (apply zT9; apply za8 Try.results29; exact rV_; intro w' hw))
          exact ⟨rfl, hw.below (by simp)⟩
      · as_aux_lemma =>
          repeat' (first | (apply v8; exact rfl; exact dT_) | (apply v9; exact rfl; exact dF_) | ((apply zR2 (v := q)); exact rfl; exact rfl; exact hq; omega; exact rfl) | (apply zv5; exact rfl; exact eV_; assumption; assumption; exact aT_; exact rfl; exact rfl; (repeat (first | exact RPar.nil | apply RPar.cons)); intro aI haI) | (apply zu9; assumption; exact aT_; exact uP_) | (first | (apply zv1; assumption; exact rfl; assumption; exact aT_; exact uP_) | (apply zj4; assumption; exact rfl; assumption; exact aT_; exact uP_) | (apply zi0; assumption; exact rfl; assumption; exact aT_; exact uP_)) | (first | apply zC5 Try.results58 | apply zv6 Try.results58) | (first | (apply zv0; assumption; assumption; exact aT_; (intro hst; cases hst); exact uP_) | (apply zq9; assumption; assumption; exact aT_; (intro hst; cases hst); exact uP_)) | ((first | apply w9 | apply y8 | apply x9 | apply p6); exact rfl; exact rfl) | (apply w7; first | refine u9 (h := ?_) | refine y9 (h := ?_) | refine w8 (h := ?_) | refine q7 (h := ?_) | refine q6 (h := ?_)) | ((first | apply p4 | apply m9); exact rfl; exact rfl; exact rfl) | (apply zd7; exact rfl; exact rfl) | (apply j8; exact rfl; exact rfl; exact rfl; (constructor <;> omega)) | ((first | apply s9 | apply x8 | apply z8 | apply s7 | apply s8 | apply w4 | apply z9 | apply w5)) | (apply v9; exact rfl; exact fF_) | ((first | apply w6 | apply z6 | apply z0 | apply p7 | apply y0 | apply z7)))
          refine o9 (m + 1) ⟨by omega, by omega⟩ (by omega) ?_ ?_
          · (try dsimp only); rw [← es]; exact fS_
          · exact hS_
    · obtain rfl : m = u := by omega
      as_aux_lemma =>
        repeat' (first | (apply v9; exact rfl; exact dF_) | ((first | apply w9 | apply y8 | apply x9 | apply p6); exact rfl; exact rfl) | (apply w7; first | refine u9 (h := ?_) | refine y9 (h := ?_) | refine w8 (h := ?_) | refine q7 (h := ?_) | refine q6 (h := ?_)) | ((first | apply p4 | apply m9); exact rfl; exact rfl; exact rfl) | (apply j8; exact rfl; exact rfl; exact rfl; (constructor <;> omega)) | ((first | apply s9 | apply x8 | apply z8 | apply s7 | apply s8 | apply w4 | apply z9 | apply w5)) | ((first | apply w6 | apply z6 | apply z0 | apply p7 | apply y0 | apply z7)))
        refine o9 (i + 1) ⟨by omega, by rw [hst]; exact hmq2, by rw [hst']; exact hnext hmq2⟩ (by omega) ?_ ?_
        · (try dsimp only); rw [hst]; exact fS_
        · exact hS_
  obtain rfl : i = r.slices.length := by omega
  rw [List.drop_length, Plt.zg1] at hmq
  rw [hmq]
  as_aux_lemma =>
    repeat' (first | (apply v9; exact rfl; exact dF_) | (apply zv5; exact rfl; exact eV_; assumption; assumption; exact aT_; exact rfl; exact rfl; (repeat (first | exact RPar.nil | apply RPar.cons)); intro aI haI) | (apply zu9; assumption; exact aT_; exact uP_) | (first | (apply zv1; assumption; exact rfl; assumption; exact aT_; exact uP_) | (apply zj4; assumption; exact rfl; assumption; exact aT_; exact uP_) | (apply zi0; assumption; exact rfl; assumption; exact aT_; exact uP_)) | (first | apply zC5 Try.results58 | apply zv6 Try.results58) | (first | (apply zv0; assumption; assumption; exact aT_; (intro hst; cases hst); exact uP_) | (apply zq9; assumption; assumption; exact aT_; (intro hst; cases hst); exact uP_)) | ((first | apply p4 | apply m9); exact rfl; exact rfl; exact rfl) | (apply q8; first | refine q9 (h := ?_) | refine p3 (h := ?_)) | ((first | apply s9 | apply x8 | apply z8 | apply s7 | apply s8 | apply w4 | apply z9 | apply w5)) | ((first | apply w6 | apply z6 | apply z0 | apply p7 | apply y0 | apply z7)))
    (first | (apply zU0; exact aT_; exact uP_; apply za8 Try.results29; exact rV_; intro w' hw) | (apply zT9; apply za8 Try.results29; exact rV_; intro w' hw))
    exact ⟨rfl, hw.below (by simp)⟩
end Go.Proofs.Ytdahckhlfldkkaa
namespace Go.Sx.Plt
def zq3 (ms : List zb3) : List (Int × Int) := ms.map fun m => (m.id, m.rate)
def zu4 (p : i8) (x t : Int) (n : Nat) : Bool := match (za4 p)[n]?, p.passes[n]? with
  | some r, some y => zn4 r x (zs2 p.ms y.mach).rate t
  | _, _ => false
def zE6 (p : i8) (x t : Int) : Nat → Option Nat
  | 0 => none
  | n + 1 => if zu4 p x t n = true then some n else zE6 p x t n
def zk6 (p : i8) (x t : Int) : (Int × Int × Int) × Int := match zn5 x (p.items.map Item.id) with
  | none => ((0, 0, 0), 6)
  | some k =>
    if t < 0 then ((0, 0, 0), 2) else
    if 1051898399 < t then ((0, 0, 0), 3) else
    match zE6 p x t p.passes.length with
    | some n => (match (za4 p)[n]? with | some r => zq0 r x | none => (0, 0, 0), 0)
    | none => ((1, 0, match p.items[k]? with | some y => y.batch | none => 0), 0)
theorem zC6 (ms : List zb3) : (zq3 ms).map Prod.fst = ms.map zb3.id := by simp [zq3, Function.comp_def]
theorem yr7 {ms : List zb3} {j : Nat} {m : zb3} (hn : (ms.map zb3.id).Nodup) (h : ms[j]? = some m) : asF m.id (zq3 ms) = some m.rate :=
  zA9 (j := j) (by rw [zC6]; exact hn) (by rw [zq3, List.getElem?_map, h]; rfl)
theorem zN0 {h : Hall} {m : zb3} {stops : List (Int × Int)} {y : za3} (hal : ∀ ready items, za5 h (max y.rel ((asF m.id h.free).getD 0)) [] y.src = some (ready, items) → items ≠ [] → zb5 [⟨y.id, ready, 1051898399, zb2 items.length m.rate⟩] m.shifts = (0, 0)) :
    (zc7 h m stops y).1.slices.length ≤ 200 ∧ ∀ s ∈ (zc7 h m stops y).1.slices, 0 ≤ s.1 ∧ s.1 ≤ s.2 ∧ s.2 ≤ 1051898399 := by
  have hmis : (missed y).slices.length ≤ 200 ∧ ∀ s ∈ (missed y).slices, 0 ≤ s.1 ∧ s.1 ≤ s.2 ∧ s.2 ≤ 1051898399 := ⟨by simp [missed], fun s hs => by simp [missed] at hs⟩
  cases ht : za5 h (max y.rel ((asF m.id h.free).getD 0)) [] y.src with
  | none => unfold zc7; rw [ht]; exact hmis
  | some q =>
    obtain ⟨ready, items⟩ := q
    by_cases hne : items = []
    · subst hne
      unfold zc7
      rw [ht]
      simp only [ne_eq, not_true_eq_false, false_and, if_false, if_true]
      split
      · exact hmis
      · exact ⟨by simp, fun s hs => by simp at hs⟩
    · have h1 := zy5 (hal ready items ht hne)
      have h2 := h1.1
      unfold Job.ok at h2
      dsimp only at h2
      unfold zc7
      rw [ht]
      simp only [hne, if_false, ne_eq, not_false_eq_true, true_and]
      split
      · exact hmis
      · split
        · exact hmis
        · refine ⟨Nat.le_trans (Go.Proofs.Ytdahckhlfldkkaa.slices_len _ _) h1.2.1, ?_⟩
          exact Go.Proofs.Ytdahckhlfldkkaa.slices_bd (by omega) (by omega) h1.2.2
end Go.Sx.Plt
namespace Go.Proofs.Ytdahckhlfldkkaa
open Go Go.Sx Go.RowKit
attribute [local irreducible] WL WC WQ WR WB WF QB St Exit.then Exit.inBlock Exit.noGoto bodyPost roundPost zc9 YR RG BM Calls B zd4 zf2
theorem yz6 {i s ba x : Int} {b4 : Nat} (w : World) (h : w.heap[b4]? = some (Ce [.int .i64 x] 3)) : Calls Try.prog 27 #[.agg #[.int .i64 i, .int .i64 s, .int .i64 ba], ptr b4] w fun e w' => e = .returned (.bool (decide (i = x))) ∧ Below w.heap.size w w' := by
  refine za6 Try.func27 rfl Try.ntmps27 rfl (Rep.start w) ?_
  repeat' (first | ((first | apply y8 | apply x9); exact rfl; exact rfl) | (apply w7; first | refine u9 (h := ?_) | refine y9 (h := ?_) | refine w8 (h := ?_) | refine q7 (h := ?_) | refine q6 (h := ?_)) | (apply m9; exact rfl; exact rfl; exact rfl) | (apply zc3; exact rfl; exact rfl; exact rfl; intro _) | ((first | apply s9 | apply x8 | apply z8 | apply s7 | apply s8 | apply w4 | apply z9 | apply w5)) | ((first | apply w6 | apply z6 | apply z0 | apply p7 | apply y0 | apply z7)))
  apply o0; apply za8 Try.results27; exact rV_; intro w' hw
  exact ⟨rfl, hw.below (by simp)⟩
theorem zN7 {v : Value} {l : List Plt.Item} {x : Int} {b4 : Nat} (w : World) (h : SV w 3 zq6 v l) (hb : w.heap[b4]? = some (Ce [.int .i64 x] 3)) : Calls Try.prog 26 #[v, .func (.func 27) #[] #[ptr b4]] w fun e w' => e = .returned (.int .i64 (Plt.zu7 x (l.map Plt.Item.id))) ∧ Below w.heap.size w w' := by
  obtain ⟨a0, c0, rfl, hc, hop⟩ := h.open
  refine za6 Try.func26 rfl Try.ntmps26 rfl (Rep.start w) ?_
  repeat' (first | ((first | apply w9 | apply y8); exact rfl; exact rfl) | (apply n8; infer_instance; exact rfl; exact rfl) | ((first | apply s9 | apply x8 | apply z8 | apply s7 | apply s8 | apply w4 | apply z9 | apply w5)) | ((first | apply w6 | apply z6 | apply z0 | apply p7 | apply y0 | apply z7)))
  apply i9 (σ := Nat) (Fs := fun i => [(8, .int .i64 i), (7, .int .i64 l.length), (0, .slice a0 l.length c0), (1, .func (.func 27) #[] #[ptr b4])]) (Ls := fun i => []) (I := fun i => i ≤ l.length ∧ ∀ j, j < i → (l.map Plt.Item.id)[j]? ≠ some x) (μ := fun i => l.length - i) (s0 := 0)
  · exact ⟨Nat.zero_le _, fun j hj => by omega⟩
  · exact fS_
  · exact hS_
  rintro i ⟨hi, hno⟩
  by_cases hlt : i < l.length
  · obtain ⟨⟨id, st, ba⟩, hx⟩ : ∃ y, l[i]? = some y := ⟨_, List.getElem?_eq_getElem hlt⟩
    obtain ⟨b, off, cc, e, fz, rfl, hk, hp⟩ := hop (by omega)
    have g1 : ∀ j u, ([.int .i64 id, .int .i64 st, .int .i64 ba] : List Value)[j]? = some u → cc[off + i * 3 + j]? = some u := hp.get hx
    have hxi : (l.map Plt.Item.id)[i]? = some id := by rw [List.getElem?_map, hx]; rfl
    have hcl : ∀ (w' : World) (L : List Ent), Rep w w' L → AO L → Calls Try.prog 27 #[.agg #[.int .i64 id, .int .i64 st, .int .i64 ba], ptr b4] w' fun e w'' => e = .returned (.bool (decide (id = x))) ∧ Below w'.heap.size w' w'' := fun w' L hw hL => yz6 w' (Kn.oldA hb hL w' hw)
    by_cases hxy : id = x
    · have e1 : Plt.zu7 x (l.map Plt.Item.id) = (i : Int) := by unfold Plt.zu7; rw [Plt.zO2 hno (hxy ▸ hxi)]
      rw [e1]
      as_aux_lemma =>
        repeat' (first | (apply v8; exact rfl; exact dT_) | ((apply zj8 (f := 27)); exact rfl; exact rfl; exact eV_; (intro w' hw; exact hcl w' _ hw (by exact aO_))) | ((first | apply w9 | apply y8); exact rfl; exact rfl) | (apply w7; first | refine u9 (h := ?_) | refine y9 (h := ?_) | refine w8 (h := ?_) | refine q7 (h := ?_) | refine q6 (h := ?_)) | (apply p4; exact rfl; exact rfl; exact rfl) | (apply l0; infer_instance; infer_instance; exact rfl; exact rfl; (first | exact rfl | omega); exact rfl; (first | assumption | omega | decide)) | ((first | apply s9 | apply x8 | apply z8 | apply s7 | apply s8 | apply w4 | apply z9 | apply w5)) | ((first | apply w6 | apply z6 | apply z0 | apply p7 | apply y0 | apply z7)))
        apply o0; apply za8 Try.results26; exact rV_; intro w' hw
        exact ⟨rfl, hw.below (by simp)⟩
    · have hno2 : ∀ j, j < i + 1 → (l.map Plt.Item.id)[j]? ≠ some x := fun j hj => by
        by_cases hji : j = i
        · subst hji; rw [hxi]; intro e; cases e; exact hxy rfl
        · exact hno j (by omega)
      as_aux_lemma =>
        repeat' (first | (apply v8; exact rfl; exact dT_) | (apply v9; exact rfl; exact dF_) | ((apply zj8 (f := 27)); exact rfl; exact rfl; exact eV_; (intro w' hw; exact hcl w' _ hw (by exact aO_))) | ((first | apply w9 | apply y8); exact rfl; exact rfl) | (apply w7; first | refine u9 (h := ?_) | refine y9 (h := ?_) | refine w8 (h := ?_) | refine q7 (h := ?_) | refine q6 (h := ?_)) | (apply p4; exact rfl; exact rfl; exact rfl) | (apply j8; exact rfl; exact rfl; exact rfl; (constructor <;> omega)) | (apply l0; infer_instance; infer_instance; exact rfl; exact rfl; (first | exact rfl | omega); exact rfl; (first | assumption | omega | decide)) | ((first | apply s9 | apply x8 | apply z8 | apply s7 | apply s8 | apply w4 | apply z9 | apply w5)) | ((first | apply w6 | apply z6 | apply z0 | apply p7 | apply y0 | apply z7)))
        refine o9 (i + 1) ⟨by omega, hno2⟩ (by omega) ?_ ?_
        · exact fS_
        · exact hS_
  obtain rfl : i = l.length := by omega
  have e1 : Plt.zu7 x (l.map Plt.Item.id) = -1 := by
    unfold Plt.zu7
    rw [Plt.zs9.2 (fun hm => by obtain ⟨j, hj⟩ := List.getElem?_of_mem hm; exact hno j (by have := (List.getElem?_eq_some_iff.1 hj).1; simpa using this) hj)]
  rw [e1]
  repeat' (first | (apply v9; exact rfl; exact dF_) | ((first | apply w9 | apply y8); exact rfl; exact rfl) | (apply p4; exact rfl; exact rfl; exact rfl) | ((first | apply s9 | apply x8 | apply z8 | apply s7 | apply s8 | apply w4 | apply z9 | apply w5)) | ((first | apply w6 | apply z6 | apply z0 | apply p7 | apply y0 | apply z7)))
  apply o0; apply za8 Try.results26; exact rV_; intro w' hw
  exact ⟨rfl, hw.below (by simp)⟩
theorem zs5 {v : Value} {l : List Plt.Item} {x z : Int} {b4 : Nat} (hz : Plt.zu7 x (l.map Plt.Item.id) = z) (w : World) (h : SV w 3 zq6 v l) (hb : w.heap[b4]? = some (Ce [.int .i64 x] 3)) : Calls Try.prog 26 #[v, .func (.func 27) #[] #[ptr b4]] w fun e w' => e = .returned (.int .i64 z) ∧ Below w.heap.size w w' := by
  subst hz; exact zN7 w h hb
theorem zP0 (a : Option Addr) (n c : Nat) (w : World) : Calls Try.prog 28 #[.slice a n c] w fun e w' => ∃ u N, e = .returned u ∧ (∃ b, u = .func (.func 41) #[] #[ptr b] ∧ N = [⟨b, Ce [.slice a n c] 61, true⟩]) ∧ Rep w w' N ∧ ∀ x ∈ N, x.own = true := by
  refine zd3 Try.func28 rfl Try.ntmps28 rfl (Rep.start w) ?_
  repeat' (first | (apply y8; exact rfl; exact rfl) | (apply zc3; exact rfl; exact rfl; exact rfl; intro _) | (apply zj7; refine zA3 (h := ?_)) | ((first | apply s9 | apply x8 | apply z8 | apply s7 | apply s8 | apply w4 | apply z9 | apply w5)) | ((first | apply w6 | apply z6 | apply z0 | apply p7 | apply y0 | apply z7)))
  apply o0; apply za8 Try.results28; exact rV_; intro w' hw
  exact ⟨_, _, rfl, ⟨_, rfl, rfl⟩, hw.sub (by exact hS_), by simp⟩
theorem yh0 {q : PlD} {p : Plt.i8} {i : Nat} {k x t : Int} (he : Plt.zd2 p = (i, k)) (hk : k ≠ 0) (w : World) (h : PlV w q p) : Calls Try.prog 9 #[plV q, .int .i64 x, .int .i64 t] w fun e w' => e = .returned (.tuple #[.agg #[.int .u8 0, .int .i64 0, .int .i64 0], .int .i64 k]) ∧ Below w.heap.size w w' := by
  obtain ⟨⟨a1, n1, c1⟩, ⟨a2, n2, c2⟩, ⟨a3, n3, c3⟩, ds, ys⟩ := q
  refine zx0 Try.func9 rfl Try.ntmps9 rfl (Rep.start w) ?_
  repeat' (first | (apply v8; exact rfl; exact dT_) | ((first | ((apply t8 (f := 16)); exact rfl) | ((apply t9 (f := 16)); exact rfl; kernel_rfl; exact rfl; exact sJ_)); exact eV_; exact (fun w hw => yk3 he hk w (h.keep hw (by exact aO_)))) | ((first | apply w9 | apply y8 | apply x9); exact rfl; exact rfl) | (apply w7; first | refine u9 (h := ?_) | refine y9 (h := ?_) | refine w8 (h := ?_) | refine q7 (h := ?_) | refine q6 (h := ?_)) | ((first | apply p4 | apply n0 | apply l8 | apply p5); exact rfl; exact rfl; exact rfl) | ((first | apply o8 | apply c8); exact rfl; intro _) | (apply zc3; exact rfl; exact rfl; exact rfl; intro _) | (apply q8; first | refine q9 (h := ?_) | refine p3 (h := ?_)) | (apply g7; first | refine a8 (h := ?_)) | ((first | apply s9 | apply x8 | apply z8 | apply s7 | apply s8 | apply w4 | apply z9 | apply w5)) | ((first | apply w6 | apply z6 | apply z0 | apply p7 | apply y0 | apply z7)))
  (first | (apply zU0; exact aT_; exact uP_; apply zf8 Try.results9; exact rV_; exact rV_; intro w' hw) | (apply zT9; apply zf8 Try.results9; exact rV_; exact rV_; intro w' hw))
  exact ⟨rfl, hw.below (by simp)⟩
end Go.Proofs.Ytdahckhlfldkkaa
namespace Go.Sx.Plt
open Go.Proofs.Ytdahckhlfldkkaa (zh3 psF tkF zl3 zi4 zl2 slices_bd slices_len)
theorem zE7 : ∀ {l : List zb3} {met : List Int} {i : Nat}, zf7 met i l = none → (l.map zb3.id).Nodup ∧ (∀ m ∈ l, m.id ∉ met ∧ zh8 m)
  | [], _, _, _ => by simp
  | m :: r, met, i, h => by
    rw [zf7] at h
    by_cases hm : m.id ∉ met ∧ zh8 m
    · rw [if_pos hm] at h
      obtain ⟨h1, h2⟩ := zE7 h
      refine ⟨?_, fun x hx => ?_⟩
      · rw [List.map_cons, List.nodup_cons]
        refine ⟨fun hx => ?_, h1⟩
        obtain ⟨x, hx, e⟩ := List.mem_map.1 hx
        exact (h2 x hx).1 (by rw [e]; simp)
      · rcases List.mem_cons.1 hx with rfl | hx
        · exact hm
        · exact ⟨fun hh => (h2 x hx).1 (List.mem_append.2 (.inl hh)), (h2 x hx).2⟩
    · rw [if_neg hm] at h; cases h
theorem zE5 : ∀ {l : List Item} {met : List Int} {i : Nat}, zg3 met i l = none → (l.map Item.id).Nodup ∧ (∀ m ∈ l, m.id ∉ met ∧ m.ok)
  | [], _, _, _ => by simp
  | m :: r, met, i, h => by
    rw [zg3] at h
    by_cases hm : m.ok ∧ m.id ∉ met
    · rw [if_pos hm] at h
      obtain ⟨h1, h2⟩ := zE5 h
      refine ⟨?_, fun x hx => ?_⟩
      · rw [List.map_cons, List.nodup_cons]
        refine ⟨fun hx => ?_, h1⟩
        obtain ⟨x, hx, e⟩ := List.mem_map.1 hx
        exact (h2 x hx).1 (by rw [e]; simp)
      · rcases List.mem_cons.1 hx with rfl | hx
        · exact ⟨hm.2, hm.1⟩
        · exact ⟨fun hh => (h2 x hx).1 (List.mem_append.2 (.inl hh)), (h2 x hx).2⟩
    · rw [if_neg hm] at h; cases h
theorem zC3 {msl : List (Int × Int)} : ∀ {l : List za3} {ps tk : List (Int × Int)} {i : Nat}, zf5 msl ps tk i l = none → ∀ (j : Nat) (y : za3), l[j]? = some y → zg9 msl (ps ++ psF msl (l.take j)) (tk ++ tkF (l.take j)) y
  | [], _, _, _, _, _, _, h => by simp at h
  | a :: r, ps, tk, i, h, j, y, hy => by
    rw [zf5] at h
    by_cases ha : zg9 msl ps tk a
    · rw [if_pos ha] at h
      cases j with
      | zero => simp at hy; subst hy; simpa [psF, tkF] using ha
      | succ j =>
        have := zC3 h j y (by simpa using hy)
        simpa [psF, tkF, List.append_assoc] using this
    · rw [if_neg ha] at h; cases h
structure Valid (p : i8) : Prop where
  small : p.ms.length ≤ 20 ∧ p.items.length ≤ 2000 ∧ p.passes.length ≤ 60
  mnd : (p.ms.map zb3.id).Nodup
  right : ∀ m ∈ p.ms, zh8 m
  ind : (p.items.map Item.id).Nodup
  iok : ∀ x ∈ p.items, x.ok
  pok : ∀ (j : Nat) (y : za3), p.passes[j]? = some y → zg9 (zf3 p.ms) (psF (zf3 p.ms) (p.passes.take j)) (tkF (p.passes.take j)) y
theorem yg8 {p : i8} (h : zd2 p = (0, 0)) : Valid p := by
  unfold zd2 at h
  by_cases hb : 20 < p.ms.length ∨ 2000 < p.items.length ∨ 60 < p.passes.length
  · rw [if_pos hb] at h; cases h
  rw [if_neg hb] at h
  cases h1 : zf7 [] 0 p.ms with
  | some i => rw [h1] at h; cases h
  | none =>
    rw [h1] at h
    dsimp only at h
    cases h2 : zg3 [] 0 p.items with
    | some i => rw [h2] at h; cases h
    | none =>
      rw [h2] at h
      dsimp only at h
      cases h3 : zf5 (zf3 p.ms) [] [] 0 p.passes with
      | some i => rw [h3] at h; cases h
      | none =>
        obtain ⟨a1, a2⟩ := zE7 h1
        obtain ⟨b1, b2⟩ := zE5 h2
        exact ⟨by omega, a1, fun m hm => (a2 m hm).2, b1, fun x hx => (b2 x hx).2, fun j y hy => by simpa using zC3 h3 j y hy⟩
theorem yw1 {ms : List zb3} {j : Nat} {m : zb3} (hn : (ms.map zb3.id).Nodup) (h : ms[j]? = some m) : zs2 ms m.id = m := by
  unfold zs2
  have : ms.find? (fun x => decide (x.id = m.id)) = some m := by
    induction ms generalizing j with
    | nil => simp at h
    | cons a r ih =>
      rw [List.map_cons, List.nodup_cons] at hn
      cases j with
      | zero => simp at h; subst h; simp
      | succ j =>
        have h' : r[j]? = some m := by simpa using h
        have hne : a.id ≠ m.id := fun e => hn.1 (List.mem_map.2 ⟨m, List.mem_of_getElem? h', e.symm⟩)
        rw [List.find?_cons, decide_eq_false hne]
        exact ih hn.2 h'
  rw [this]; rfl
theorem Valid.mach {p : i8} (h : Valid p) {j : Nat} {y : za3} (hy : p.passes[j]? = some y) : ∃ (k : Nat) (m : zb3), p.ms[k]? = some m ∧ m.id = y.mach ∧ zs2 p.ms y.mach = m ∧ zh8 m ∧ asF y.mach (zf3 p.ms) = some (m.caps.length : Int) := by
  have h1 := (h.pok j y hy).1.1.2
  obtain ⟨n, hn⟩ := Option.isSome_iff_exists.1 h1
  obtain ⟨k, hk⟩ := zm7 hn
  rw [zf3, List.getElem?_map] at hk
  cases hm : p.ms[k]? with
  | none => rw [hm] at hk; cases hk
  | some m =>
    rw [hm] at hk
    simp only [Option.map_some, Option.some.injEq, Prod.mk.injEq] at hk
    refine ⟨k, m, hm, hk.1, by rw [← hk.1]; exact yw1 h.mnd hm, h.right m (List.mem_of_getElem? hm), by rw [hn, hk.2]⟩
def wF (x : Int) (tk : List (Int × Int)) : List ((Int × Int) × List Int) → Nat
  | [] => 0
  | q :: r => (if q.1 ∈ tk then 0 else q.2.count x) + wF x tk r
theorem yo8 {x : Int} {tk : List (Int × Int)} {a : Int × Int} : ∀ {rows : List ((Int × Int) × List Int)}, a ∉ rows.map Prod.fst → wF x (tk ++ [a]) rows = wF x tk rows
  | [], _ => rfl
  | q :: r, h => by
    rw [List.map_cons, List.mem_cons, not_or] at h
    rw [wF, wF, yo8 h.2]
    congr 1
    have : (q.1 ∈ tk ++ [a]) ↔ q.1 ∈ tk := by simp [show ¬ q.1 = a from fun e => h.1 e.symm]
    by_cases hq : q.1 ∈ tk
    · rw [if_pos hq, if_pos (this.2 hq)]
    · rw [if_neg hq, if_neg (fun hh => hq (this.1 hh))]
theorem zO5 {x : Int} {tk : List (Int × Int)} {a : Int × Int} (ha : a ∉ tk) : ∀ {rows : List ((Int × Int) × List Int)}, (rows.map Prod.fst).Nodup → wF x tk rows = ((asF a rows).getD []).count x + wF x (tk ++ [a]) rows
  | [], _ => by simp [wF, asF]
  | q :: r, h => by
    rw [List.map_cons, List.nodup_cons] at h
    rw [wF, wF, asF]
    by_cases e : q.1 = a
    · subst e
      rw [if_neg ha, if_pos rfl, if_pos (by simp), yo8 h.1]
      simp
    · have ih := zO5 (x := x) ha h.2
      rw [if_neg e, ih]
      have : (q.1 ∈ tk ++ [a]) ↔ q.1 ∈ tk := by simp [e]
      by_cases hq : q.1 ∈ tk
      · rw [if_pos hq, if_pos (this.2 hq)]; omega
      · rw [if_neg hq, if_neg (fun hh => hq (this.1 hh))]; omega
theorem yg9 {x : Int} {rows : List ((Int × Int) × List Int)} (hn : (rows.map Prod.fst).Nodup) : ∀ {S tk : List (Int × Int)}, S.Nodup → (∀ s ∈ S, s ∉ tk) → wF x tk rows = (S.flatMap fun s => (asF s rows).getD []).count x + wF x (tk ++ S) rows
  | [], tk, _, _ => by simp
  | a :: S, tk, hS, hd => by
    rw [List.nodup_cons] at hS
    have h1 := zO5 (x := x) (hd a List.mem_cons_self) hn
    have h2 := yg9 (x := x) hn (S := S) (tk := tk ++ [a]) hS.2 (fun s hs hh => by
      rcases List.mem_append.1 hh with hh | hh
      · exact hd s (List.mem_cons_of_mem _ hs) hh
      · simp at hh; subst hh; exact hS.1 hs)
    rw [List.flatMap_cons, List.count_append, h1, h2, List.append_assoc, List.singleton_append]
    omega
theorem yL9 {x : Int} {tk : List (Int × Int)} {a : Int × Int} {l : List Int} (ha : a ∉ tk) : ∀ {rows : List ((Int × Int) × List Int)}, asF a rows = none → wF x tk (ze5 a l rows) = wF x tk rows + l.count x := by
  intro rows h
  rw [zl4 h]
  have : ∀ r : List ((Int × Int) × List Int), wF x tk (r ++ [(a, l)]) = wF x tk r + l.count x := by
    intro r
    induction r with
    | nil => simp [wF, ha]
    | cons q r ih => rw [List.cons_append, wF, wF, ih]; omega
  exact this rows
theorem yo9 {x id : Int} {tk : List (Int × Int)} (htk : ∀ s ∈ tk, s.1 ≠ id) : ∀ (l : List (List Int)) (k : Nat) (rows : List ((Int × Int) × List Int)), (∀ n : Int, (k : Int) ≤ n → asF (id, n) rows = none) → wF x tk (ze8 id k l rows) = wF x tk rows + l.flatten.count x
  | [], k, rows, _ => by simp [ze8]
  | a :: r, k, rows, h => by
    rw [ze8, yo9 htk r (k + 1) _ (fun n hn => by
      rw [zj6, if_neg (fun e => by have := (Prod.mk.inj e).2; omega)]
      exact h n (by omega)), yL9 (fun hh => htk _ hh rfl) (h k (by omega)), List.flatten_cons, List.count_append]
    omega
theorem zI0 : ∀ {a b : List Int}, (∀ x, a.count x ≤ b.count x) → a.length ≤ b.length
  | [], b, _ => Nat.zero_le _
  | x :: r, b, h => by
    have hx : x ∈ b := by
      have := h x
      rw [List.count_cons_self] at this
      exact List.count_pos_iff.1 (by omega)
    have h2 := zI0 (a := r) (b := b.erase x) fun z => by
      have := h z
      by_cases e : x = z
      · subst e
        rw [List.count_cons_self] at this
        rw [List.count_erase_self]; omega
      · rw [List.count_cons_of_ne e] at this
        rw [List.count_erase_of_ne (fun hh => e hh.symm)]
        exact this
    rw [List.length_erase_of_mem hx] at h2
    have := List.length_pos_of_mem hx
    rw [List.length_cons]; omega
end Go.Sx.Plt
namespace Go.Sx.Plt
open Go.Proofs.Ytdahckhlfldkkaa (zh3 psF tkF zl3 zi4 zl2 slices_bd slices_len)
theorem zE1 {ps : List (Int × Int)} : ∀ {l tk : List (Int × Int)}, zf9 ps tk l → l.Nodup ∧ ∀ s ∈ l, s ∉ tk ∧ zi6 ps s
  | [], _, _ => by simp
  | a :: r, tk, h => by
    obtain ⟨⟨h1, h2⟩, h3⟩ := h
    obtain ⟨h4, h5⟩ := zE1 h3
    refine ⟨List.nodup_cons.2 ⟨fun ha => (h5 a ha).1 (by simp), h4⟩, fun s hs => ?_⟩
    rcases List.mem_cons.1 hs with rfl | hs
    · exact ⟨h2, h1⟩
    · exact ⟨fun hh => (h5 s hs).1 (List.mem_append.2 (.inl hh)), (h5 s hs).2⟩
def Early (p : i8) (i : Nat) (id : Int) : Prop := ∃ (j : Nat) (y : za3), j < i ∧ p.passes[j]? = some y ∧ y.id = id
theorem Early.mono {p : i8} {i : Nat} {id : Int} (h : Early p i id) : Early p (i + 1) id := by
  obtain ⟨j, y, h1, h2, h3⟩ := h
  exact ⟨j, y, by omega, h2, h3⟩
theorem yr3 {p : i8} {i : Nat} {id n : Int} {msl : List (Int × Int)} (h : asF id (psF msl (p.passes.take i)) = some n) : Early p i id := by
  obtain ⟨j, hj⟩ := zm7 h
  rw [psF, List.getElem?_map] at hj
  cases hy : (p.passes.take i)[j]? with
  | none => rw [hy] at hj; cases hj
  | some y =>
    rw [hy] at hj
    simp only [Option.map_some, Option.some.injEq, Prod.mk.injEq] at hj
    rw [List.getElem?_take] at hy
    split at hy
    · rename_i hji
      exact ⟨j, y, hji, hy, hj.1⟩
    · cases hy
theorem ys6 {p : i8} {i : Nat} {s : Int × Int} {msl : List (Int × Int)} (h : zi6 (psF msl (p.passes.take i)) s) : s.1 = 0 ∨ Early p i s.1 := by
  unfold zi6 at h
  by_cases h0 : s.1 = 0
  · exact .inl h0
  · rw [if_neg h0] at h
    cases ho : asF s.1 (psF msl (p.passes.take i)) with
    | none => rw [ho] at h; exact h.elim
    | some n => exact .inr (yr3 ho)
theorem Valid.new {p : i8} (h : Valid p) {i : Nat} {y : za3} (hy : p.passes[i]? = some y) : ¬ Early p i y.id := by
  rintro ⟨j, z, h1, h2, h3⟩
  have h4 := (h.pok i y hy).1.1.1
  have : (z.id, (asF z.mach (zf3 p.ms)).getD 0) ∈ psF (zf3 p.ms) (p.passes.take i) := List.mem_map.2 ⟨z, List.mem_of_getElem? (by rw [List.getElem?_take, if_pos h1]; exact h2), rfl⟩
  exact zi7.1 h4 _ this h3
theorem Valid.src {p : i8} (h : Valid p) {i : Nat} {y : za3} (hy : p.passes[i]? = some y) : y.src.Nodup ∧ ∀ s ∈ y.src, s ∉ tkF (p.passes.take i) ∧ (s.1 = 0 ∨ Early p i s.1) := by
  obtain ⟨h1, h2⟩ := zE1 (h.pok i y hy).2.1
  exact ⟨h1, fun s hs => ⟨(h2 s hs).1, ys6 (h2 s hs).2⟩⟩
theorem Valid.taken {p : i8} (h : Valid p) : ∀ i, ∀ s ∈ tkF (p.passes.take i), s.1 = 0 ∨ Early p i s.1
  | 0, s, hs => by simp [tkF] at hs
  | i + 1, s, hs => by
    cases hy : p.passes[i]? with
    | none =>
      have : p.passes.take (i + 1) = p.passes.take i := by rw [List.take_add_one, hy]; simp
      rw [this] at hs
      exact (h.taken i s hs).imp id Early.mono
    | some y =>
      rw [zi4 hy] at hs
      rcases List.mem_append.1 hs with hs | hs
      · exact (h.taken i s hs).imp id Early.mono
      · exact ((h.src hy).2 s hs).2.imp id Early.mono
theorem zi3 {h : Hall} : ∀ {l : List (Int × Int)} {r0 ready : Int} {acc items : List Int}, za5 h r0 acc l = some (ready, items) →
    items = acc ++ l.flatMap h.row ∧ r0 ≤ ready ∧ ∀ B, r0 ≤ B → (∀ q ∈ h.ends, q.2 ≤ B) → ready ≤ B
  | [], r0, ready, acc, items, hh => by
    simp only [za5, Option.some.injEq, Prod.mk.injEq] at hh
    exact ⟨by simp [hh.2], by omega, fun B h1 _ => by omega⟩
  | (s1, s2) :: l, r0, ready, acc, items, hh => by
    rw [za5] at hh
    by_cases h0 : s1 = 0
    · subst h0
      rw [if_neg (by simp)] at hh
      obtain ⟨h1, h2, h3⟩ := zi3 hh
      exact ⟨by rw [h1, List.flatMap_cons, List.append_assoc], h2, h3⟩
    · rw [if_pos h0] at hh
      cases he : asF s1 h.ends with
      | none => simp only [he] at hh; cases hh
      | some e =>
        simp only [he] at hh
        obtain ⟨h1, h2, h3⟩ := zi3 hh
        refine ⟨by rw [h1, List.flatMap_cons, List.append_assoc], by omega, fun B hB hq => h3 B ?_ hq⟩
        have := hq _ (zG8 he)
        dsimp only at this
        omega
theorem yk7 (h : Hall) (m : zb3) (stops : List (Int × Int)) (y : za3) : zc7 h m stops y = (missed y, h) ∨ ∃ ready items start fin sl res, za5 h (max y.rel ((asF m.id h.free).getD 0)) [] y.src = some (ready, items) ∧ Srt.zc7 m.caps m.sweeps (items.map (zb8 stops y)) = (res, 0) ∧
    zc7 h m stops y = (⟨y.id, start, fin, items, sl, res⟩, ⟨ze8 y.id 0 res.stackers h.rows, ze5 y.id fin h.ends, ze5 m.id fin h.free⟩) ∧
    ((items = [] ∧ sl = [] ∧ start = ready ∧ fin = ready) ∨ (items ≠ [] ∧ sl = g8 ready (zb2 items.length m.rate) m.shifts ∧ sl ≠ [] ∧ zb2 items.length m.rate ≤ zb6 sl ∧ start = (sl.headD (0, 0)).1 ∧ fin = (sl.getLastD (0, 0)).2)) := by
  cases ht : za5 h (max y.rel ((asF m.id h.free).getD 0)) [] y.src with
  | none => exact .inl (by unfold zc7; rw [ht])
  | some q =>
    obtain ⟨ready, items⟩ := q
    obtain ⟨⟨res, k⟩, hres⟩ : ∃ r, Srt.zc7 m.caps m.sweeps (items.map (zb8 stops y)) = r := ⟨_, rfl⟩
    by_cases hk : k = 0
    · subst hk
      by_cases hne : items = []
      · subst hne
        refine .inr ⟨ready, [], ready, ready, [], res, rfl, hres, ?_, .inl ⟨rfl, rfl, rfl, rfl⟩⟩
        rw [Go.Proofs.Ytdahckhlfldkkaa.runF_idle ht, show Srt.zc7 m.caps m.sweeps [] = (res, 0) from hres]
        unfold Go.Proofs.Ytdahckhlfldkkaa.tailF
        rw [if_neg (by simp)]
      · by_cases hl : g8 ready (zb2 items.length m.rate) m.shifts = [] ∨ zb6 (g8 ready (zb2 items.length m.rate) m.shifts) < zb2 items.length m.rate
        · exact .inl (Go.Proofs.Ytdahckhlfldkkaa.runF_late ht hne hl)
        · refine .inr ⟨ready, items, _, _, _, res, rfl, hres, ?_, .inr ⟨hne, rfl, fun hh => hl (.inl hh), by omega, rfl, rfl⟩⟩
          rw [Go.Proofs.Ytdahckhlfldkkaa.runF_busy ht hne hl, hres]
          unfold Go.Proofs.Ytdahckhlfldkkaa.tailF
          rw [if_neg (by simp)]
    · refine .inl ?_
      by_cases hne : items = []
      · subst hne
        rw [Go.Proofs.Ytdahckhlfldkkaa.runF_idle ht, show Srt.zc7 m.caps m.sweeps [] = (res, k) from hres]
        unfold Go.Proofs.Ytdahckhlfldkkaa.tailF
        rw [if_pos hk]
      · by_cases hl : g8 ready (zb2 items.length m.rate) m.shifts = [] ∨ zb6 (g8 ready (zb2 items.length m.rate) m.shifts) < zb2 items.length m.rate
        · exact Go.Proofs.Ytdahckhlfldkkaa.runF_late ht hne hl
        · rw [Go.Proofs.Ytdahckhlfldkkaa.runF_busy ht hne hl, hres]
          unfold Go.Proofs.Ytdahckhlfldkkaa.tailF
          rw [if_pos hk]
theorem yC8 {l : List (Int × Int)} (h : ∀ s ∈ l, 0 ≤ s.1 ∧ s.1 ≤ s.2 ∧ s.2 ≤ 1051898399) (hne : l ≠ []) : 0 ≤ (l.getLastD (0, 0)).2 ∧ (l.getLastD (0, 0)).2 ≤ 1051898399 := by
  have hm : l.getLastD (0, 0) ∈ l := by
    rw [List.getLastD_eq_getLast?, List.getLast?_eq_getElem?, List.getElem?_eq_getElem (by have := List.length_pos_iff.2 hne; omega)]
    exact List.getElem_mem _
  have := h _ hm
  omega
theorem zA2 {caps : List Int} {s : Int} {l : List Srt.Fd} {res : Srt.M} (h : Srt.zc7 caps s l = (res, 0)) : res = Srt.za4 caps s l ∧ (∀ f ∈ l, f.st < caps.length) ∧ (l.map Srt.Fd.item).Nodup := by
  unfold Srt.zc7 at h
  split at h
  · cases h
  · split at h
    · cases h
    · split at h
      · rename_i h1
        simp only [Prod.mk.injEq] at h
        exact absurd h.2 h1
      · rename_i h1
        simp only [Prod.mk.injEq] at h
        refine ⟨h.1.symm, ?_⟩
        have h1 : Srt.zp2 caps.length l = 0 := Classical.not_not.1 h1
        unfold Srt.zp2 at h1
        split at h1
        · cases h1
        · split at h1
          · cases h1
          · rename_i hb
            have hb2 := Srt.zy6.1 (by simpa using hb)
            exact ⟨fun f hf => (hb2.1 f hf).2.2, hb2.2.1⟩
theorem zz1 (stops : List (Int × Int)) (y : za3) (items : List Int) : (items.map (zb8 stops y)).map Srt.Fd.item = items := by
  rw [List.map_map]
  have : (Srt.Fd.item ∘ zb8 stops y) = id := by
    funext x
    simp only [Function.comp, zb8]
    split <;> rfl
  rw [this, List.map_id]
theorem zC8 {caps : List Int} {s : Int} {stops : List (Int × Int)} {y : za3} {items : List Int} {res : Srt.M} (h : Srt.zc7 caps s (items.map (zb8 stops y)) = (res, 0)) (x : Int) : res.stackers.flatten.count x + (res.over.count x + res.rej.count x) = items.count x := by
  obtain ⟨h1, h2, _⟩ := zA2 h
  have := (Srt.yr1 (s := s) h2).count_eq x
  rw [zz1, ← h1] at this
  rw [← this, Srt.zM4, List.count_append, List.count_append]
structure Inv (p : i8) (i : Nat) (h : Hall) : Prop where
  en : (h.ends.map Prod.fst).Nodup
  eb : ∀ q ∈ h.ends, Early p i q.1 ∧ 0 ≤ q.2 ∧ q.2 ≤ 1051898399
  fn : (h.free.map Prod.fst).Nodup
  fb : ∀ q ∈ h.free, 0 ≤ q.2 ∧ q.2 ≤ 1051898399
  rn : (h.rows.map Prod.fst).Nodup
  rk : ∀ q ∈ h.rows, q.1.1 = 0 ∨ Early p i q.1.1
  wt : ∀ x, wF x (tkF (p.passes.take i)) h.rows ≤ (p.items.map Item.id).count x
theorem Inv.zero (p : i8) : Inv p 0 (za0 p 0) := by
  have key : ∀ l : List Item, ((za1 [] l).map Prod.fst).Nodup ∧ (∀ q ∈ za1 [] l, q.1.1 = 0) ∧ ∀ x, wF x [] (za1 [] l) = (l.map Item.id).count x := by
    intro l
    refine zn3 (p := fun l => ((za1 [] l).map Prod.fst).Nodup ∧ (∀ q ∈ za1 [] l, q.1.1 = 0) ∧ ∀ x, wF x [] (za1 [] l) = (l.map Item.id).count x) ⟨by simp [za1], by simp [za1], by simp [za1, wF]⟩ (fun l y ih => ?_) l
    obtain ⟨h1, h2, h3⟩ := ih
    rw [zy7]
    refine ⟨zg6 h1, fun q hq => ?_, fun x => ?_⟩
    · have : q.1 ∈ (ze5 (0, y.batch) ((asF (0, y.batch) (za1 [] l)).getD [] ++ [y.id]) (za1 [] l)).map Prod.fst := List.mem_map.2 ⟨q, hq, rfl⟩
      rcases zL3.1 this with e | e
      · rw [e]
      · obtain ⟨q', hq', e'⟩ := List.mem_map.1 e
        rw [← e']; exact h2 q' hq'
    · have e1 : wF x [] (ze5 (0, y.batch) ((asF (0, y.batch) (za1 [] l)).getD [] ++ [y.id]) (za1 [] l)) = wF x [] (za1 [] l) + [y.id].count x := by
        have hp := zg6 (k := ((0 : Int), y.batch)) (v := (asF (0, y.batch) (za1 [] l)).getD [] ++ [y.id]) h1
        have g1 := zO5 (x := x) (tk := []) (a := (0, y.batch)) (by simp) hp
        have g2 := zO5 (x := x) (tk := []) (a := (0, y.batch)) (by simp) h1
        rw [zj6, if_pos rfl, Option.getD_some, List.count_append] at g1
        have g3 : wF x ([] ++ [((0 : Int), y.batch)]) (ze5 (0, y.batch) ((asF (0, y.batch) (za1 [] l)).getD [] ++ [y.id]) (za1 [] l)) = wF x ([] ++ [((0 : Int), y.batch)]) (za1 [] l) := by
          generalize (asF (0, y.batch) (za1 [] l)).getD [] ++ [y.id] = v
          generalize za1 [] l = m
          induction m with
          | nil => simp [ze5, wF]
          | cons q r ih =>
            rw [ze5]
            by_cases e : q.1 = (0, y.batch)
            · rw [if_pos e, wF, wF]; simp [e]
            · rw [if_neg e, wF, wF, ih]
        omega
      rw [e1, h3, List.map_append, List.count_append]; rfl
  rw [zr3]
  obtain ⟨h1, h2, h3⟩ := key p.items
  exact ⟨by simp [zx6], by simp [zx6], by simp [zx6], by simp [zx6], h1, fun q hq => .inl (h2 q hq), fun x => by simp [tkF, zx6, h3]⟩
end Go.Sx.Plt
namespace Go.Sx.Plt
open Go.Proofs.Ytdahckhlfldkkaa (zh3 psF tkF zl3 zi4 zl2 slices_bd slices_len)
theorem zz8 {m : zb3} (h : zh8 m) : m.shifts.length ≤ 200 ∧ zi5 0 0 m.shifts = none := by
  have h1 := h.2.2.2
  unfold zb5 at h1
  split at h1
  · cases h1
  · rename_i hb
    split at h1
    · cases h1
    · split at h1
      · cases h1
      · rename_i h2
        exact ⟨by omega, h2⟩
theorem Inv.row_early {p : i8} {i : Nat} {h : Hall} (hi : Inv p i h) {id n : Int} (h1 : id ≠ 0) (hn : ¬ Early p i id) : asF (id, n) h.rows = none := by
  rw [zi7]
  intro q hq e
  rcases hi.rk q hq with h0 | h0
  · rw [e] at h0; exact h1 h0
  · rw [e] at h0; exact hn h0
theorem Inv.count {p : i8} {i : Nat} {h : Hall} (hi : Inv p i h) {S : List (Int × Int)} (hS : S.Nodup) (hd : ∀ s ∈ S, s ∉ tkF (p.passes.take i)) (x : Int) : (S.flatMap h.row).count x + wF x (tkF (p.passes.take i) ++ S) h.rows ≤ (p.items.map Item.id).count x := by
  have h1 := yg9 (x := x) hi.rn hS hd
  have h2 := hi.wt x
  have e : (S.flatMap fun s => (asF s h.rows).getD []) = S.flatMap h.row := rfl
  rw [e] at h1
  omega
theorem Inv.len {p : i8} {i : Nat} {h : Hall} (hv : Valid p) (hi : Inv p i h) {S : List (Int × Int)} (hS : S.Nodup) (hd : ∀ s ∈ S, s ∉ tkF (p.passes.take i)) : (S.flatMap h.row).length ≤ 2000 := by
  have := zI0 (a := S.flatMap h.row) (b := p.items.map Item.id) fun x => by have := hi.count hS hd x; omega
  rw [List.length_map] at this
  have := hv.small.2.1
  omega
theorem yC2 {p : i8} {i : Nat} {h : Hall} (hi : Inv p i h) (id : Int) : 0 ≤ (asF id h.free).getD 0 ∧ (asF id h.free).getD 0 ≤ 1051898399 := by
  cases ho : asF id h.free with
  | none => simp
  | some v => exact hi.fb _ (zG8 ho)
theorem Inv.ready {p : i8} {i : Nat} {h : Hall} (hi : Inv p i h) {y : za3} (hr : 0 ≤ y.rel ∧ y.rel ≤ 1051898399) {m : zb3} {ready : Int} {items : List Int} (ht : za5 h (max y.rel ((asF m.id h.free).getD 0)) [] y.src = some (ready, items)) : 0 ≤ ready ∧ ready ≤ 1051898399 := by
  obtain ⟨_, h2, h3⟩ := zi3 ht
  have hf := yC2 hi m.id
  have := h3 1051898399 (by omega) fun q hq => (hi.eb q hq).2.2
  omega
theorem yD1 {n : Nat} {r : Int} (hn : 0 < n ∧ n ≤ 2000) (hr : 1 ≤ r ∧ r ≤ 1000) : 1 ≤ zb2 n r ∧ zb2 n r ≤ 100000 := by
  unfold zb2
  constructor
  · exact Int.le_ediv_of_mul_le (by omega) (by omega)
  · have := Int.ediv_le_self r (show (0 : Int) ≤ (n : Int) + r - 1 by omega)
    omega
theorem Inv.job {p : i8} {i : Nat} {h : Hall} (hv : Valid p) (hi : Inv p i h) {y : za3} (hy : p.passes[i]? = some y) {m : zb3} (hm : zh8 m) {ready : Int} {items : List Int} (ht : za5 h (max y.rel ((asF m.id h.free).getD 0)) [] y.src = some (ready, items)) (hne : items ≠ []) :
    zb5 [⟨y.id, ready, 1051898399, zb2 items.length m.rate⟩] m.shifts = (0, 0) := by
  have hpo := (hv.pok i y hy).1
  have hrd := hi.ready hpo.2.2 ht
  obtain ⟨h1, _, _⟩ := zi3 ht
  rw [List.nil_append] at h1
  have hs := hv.src hy
  have hl := hi.len hv hs.1 fun s hs' => (hs.2 s hs').1
  rw [← h1] at hl
  have hpos := List.length_pos_iff.2 hne
  have hnb := yD1 ⟨hpos, hl⟩ hm.2.1
  obtain ⟨g1, g2⟩ := zz8 hm
  unfold zb5
  rw [if_neg (by simp; omega)]
  have hid := hpo.2.1
  unfold zB7 at hid
  have hj : zs1 [] 0 [(⟨y.id, ready, 1051898399, zb2 items.length m.rate⟩ : Job)] = none := by
    rw [zs1, if_pos ⟨by unfold Job.ok; dsimp only; omega, by simp⟩]; rfl
  rw [hj]
  dsimp only
  rw [g2]
theorem Inv.fin {p : i8} {i : Nat} {h : Hall} (hv : Valid p) (hi : Inv p i h) {y : za3} (hy : p.passes[i]? = some y) {m : zb3} (hm : zh8 m) {ready start fin : Int} {items : List Int} {sl : List (Int × Int)} (ht : za5 h (max y.rel ((asF m.id h.free).getD 0)) [] y.src = some (ready, items))
    (hc : (items = [] ∧ sl = [] ∧ start = ready ∧ fin = ready) ∨ (items ≠ [] ∧ sl = g8 ready (zb2 items.length m.rate) m.shifts ∧ sl ≠ [] ∧ zb2 items.length m.rate ≤ zb6 sl ∧ start = (sl.headD (0, 0)).1 ∧ fin = (sl.getLastD (0, 0)).2)) : 0 ≤ fin ∧ fin ≤ 1051898399 := by
  have hrd := hi.ready (hv.pok i y hy).1.2.2 ht
  rcases hc with ⟨_, _, _, rfl⟩ | ⟨hne, hsl, hsn, _, _, rfl⟩
  · exact hrd
  · obtain ⟨h1, _, h3⟩ := zy5 (hi.job hv hy hm ht hne)
    have hj := h1
    unfold Job.ok at hj
    dsimp only at hj
    refine yC8 ?_ hsn
    rw [hsl]
    exact slices_bd (by omega) (by omega) h3
theorem Inv.step {p : i8} {i : Nat} (hv : Valid p) {y : za3} (hy : p.passes[i]? = some y) (hi : Inv p i (za0 p i)) : Inv p (i + 1) (za0 p (i + 1)) := by
  obtain ⟨k, m, hmk, hmid, hmf, hmr, hml⟩ := hv.mach hy
  rw [zB4 hy, hmf]
  generalize za0 p i = h at hi ⊢
  have hs := hv.src hy
  have hnew := hv.new hy
  have hid0 : y.id ≠ 0 := by
    have := (hv.pok i y hy).1.2.1
    unfold zB7 at this
    omega
  have hey : Early p (i + 1) y.id := ⟨i, y, Nat.lt_succ_self i, hy, rfl⟩
  rcases yk7 h m (zc1 p.items) y with he | ⟨ready, items, start, fin, sl, res, ht, hres, he, hc⟩
  · rw [he]
    refine ⟨hi.en, fun q hq => ⟨(hi.eb q hq).1.mono, (hi.eb q hq).2⟩, hi.fn, hi.fb, hi.rn, fun q hq => (hi.rk q hq).imp id Early.mono, fun x => ?_⟩
    rw [zi4 hy]
    have := hi.count hs.1 (fun s hs' => (hs.2 s hs').1) x
    show wF x _ h.rows ≤ _
    omega
  · rw [he]
    have hfin := hi.fin hv hy hmr ht hc
    obtain ⟨hit, _, _⟩ := zi3 ht
    rw [List.nil_append] at hit
    refine ⟨zg6 hi.en, fun q hq => ?_, zg6 hi.fn, fun q hq => ?_, zn0 _ _ _ _ hi.rn, fun q hq => ?_, fun x => ?_⟩
    · dsimp only at hq
      have hk := zg6 (k := y.id) (v := fin) hi.en
      obtain ⟨j, hj⟩ := List.getElem?_of_mem hq
      have := zA9 (k := q.1) (v := q.2) hk hj
      rw [zj6] at this
      by_cases e : y.id = q.1
      · rw [if_pos e] at this
        cases this
        exact ⟨e ▸ hey, hfin⟩
      · rw [if_neg e] at this
        have := hi.eb _ (zG8 this)
        exact ⟨this.1.mono, this.2⟩
    · dsimp only at hq
      have hk := zg6 (k := m.id) (v := fin) hi.fn
      obtain ⟨j, hj⟩ := List.getElem?_of_mem hq
      have := zA9 (k := q.1) (v := q.2) hk hj
      rw [zj6] at this
      by_cases e : m.id = q.1
      · rw [if_pos e] at this
        cases this
        exact hfin
      · rw [if_neg e] at this
        exact hi.fb _ (zG8 this)
    · dsimp only at hq
      have hk := zn0 y.id res.stackers 0 h.rows hi.rn
      obtain ⟨j, hj⟩ := List.getElem?_of_mem hq
      obtain ⟨⟨a, b⟩, l⟩ := q
      have := zA9 (k := (a, b)) (v := l) hk hj
      rw [zu0] at this
      split at this
      · rename_i hcc
        exact .inr (hcc.1 ▸ hey)
      · exact (hi.rk _ (zG8 this)).imp id Early.mono
    · dsimp only
      rw [zi4 hy]
      have hc1 := hi.count hs.1 (fun s hs' => (hs.2 s hs').1) x
      rw [← hit] at hc1
      have hc2 := zC8 hres x
      rw [yo9 (fun s hs' => ?_) _ _ _ (fun n _ => hi.row_early hid0 hnew)]
      · omega
      · intro e
        rcases List.mem_append.1 hs' with hh | hh
        · rcases hv.taken i s hh with h0 | h0
          · exact hid0 (e ▸ h0)
          · exact hnew (e ▸ h0)
        · rcases (hs.2 s hh).2 with h0 | h0
          · exact hid0 (e ▸ h0)
          · exact hnew (e ▸ h0)
theorem Inv.all {p : i8} (hv : Valid p) : ∀ i, Inv p i (za0 p i)
  | 0 => Inv.zero p
  | i + 1 => by
    cases hy : p.passes[i]? with
    | none =>
      have e1 : p.passes.take (i + 1) = p.passes.take i := by rw [List.take_add_one, hy]; simp
      have e2 : za0 p (i + 1) = za0 p i := by unfold za0; rw [e1]
      have hi := Inv.all hv i
      rw [e2]
      exact ⟨hi.en, fun q hq => ⟨(hi.eb q hq).1.mono, (hi.eb q hq).2⟩, hi.fn, hi.fb, hi.rn, fun q hq => (hi.rk q hq).imp id Early.mono, fun x => by rw [e1]; exact hi.wt x⟩
    | some y => exact Inv.step hv hy (Inv.all hv i)
theorem zG9 {p : i8} (h : zd2 p = (0, 0)) : Calm p := by
  have hv := yg8 h
  refine ⟨h, hv.mnd, fun i y hy => ?_, fun i y hy => ?_, fun i => ⟨(Inv.all hv i).en, (Inv.all hv i).fn⟩, fun i y hy k => ?_, fun i y hy ready items ht hne => ?_⟩
  · obtain ⟨k, m, h1, h2, h3, h4, _⟩ := hv.mach hy
    exact ⟨k, m, h1, h2, h3, h4.2.1⟩
  · rw [zi7]
    intro q hq e
    exact hv.new hy (e ▸ ((Inv.all hv i).eb q hq).1)
  · have hs := hv.src hy
    have := (Inv.all hv i).len hv (S := y.src.take k) (List.Sublist.nodup (List.take_sublist k _) hs.1) fun s hs' => (hs.2 s (List.mem_of_mem_take hs')).1
    omega
  · obtain ⟨k, m, h1, h2, h3, h4, _⟩ := hv.mach hy
    rw [h3] at ht ⊢
    exact (Inv.all hv i).job hv hy h4 ht hne
end Go.Sx.Plt
namespace Go.Sx.Srt
open Go.Sx.Seq (zm6 zl9)
def shift (d : Int) (m : M) : M := { m with left := m.left + d }
def yO9 (caps : List Int) (l : List Fd) : Int := (za4 caps l.length l).swept.sum
end Go.Sx.Srt
namespace Go.Sx.Srt
open Go.Sx.Seq (zm6 zl9)
def goes (l : List Fd) (k : Nat) : List Int := (l.filter fun f => f.st = (k : Int)).map Fd.item
def refused (l : List Fd) : List Int := (l.filter fun f => f.st < 0).map Fd.item
theorem zD4 {α : Type} {P : List α → Prop} (h0 : P []) (h1 : ∀ l x, P l → P (l ++ [x])) : ∀ l, P l := by
  intro l
  have : ∀ n, n ≤ l.length → P (l.take n) := by
    intro n
    induction n with
    | zero => intro _; simpa using h0
    | succ n ih =>
      intro hn
      have hx := List.getElem?_eq_getElem (show n < l.length by omega)
      rw [List.take_add_one, hx]
      exact h1 _ _ (ih (by omega))
  have := this l.length (Nat.le_refl _)
  rwa [List.take_length] at this
theorem yq3 {α : Type} {l : List (List α)} {n : Nat} (h : l.length = n) : l = (List.range n).map fun k => l.getD k [] := by
  subst h
  apply List.ext_getElem?
  intro i
  by_cases hi : i < l.length
  · simp [hi]
  · rw [List.getElem?_eq_none (by omega), List.getElem?_eq_none (by simp; omega)]
end Go.Sx.Srt
namespace Go.Sx.Plt
def zn9 (t : Int) : List Sh → Int
  | [] => 0
  | s :: r => max 0 (s.t - max s.f t) + zn9 t r
theorem yj0 (t : Int) (s : Sh) : ∀ l : List Sh, zn9 t (l ++ [s]) = zn9 t l + max 0 (s.t - max s.f t)
  | [] => by simp [zn9]
  | a :: r => by rw [List.cons_append, zn9, zn9, yj0 t s r]; omega
def nb (l : List UInt8) (i : Nat) : Int := if l.length = 0 then 0 else ((l.getD (i % l.length) 0).toNat : Int)
end Go.Sx.Plt
namespace Go.Sx.Plt
def ze0 (items : List Item) (s : Int × Int) : List Int := if s.1 = 0 then (items.filter fun x => x.batch = s.2).map Item.id else []
def zM7 (s : Int × Int) (r : Run) : List Int := if r.pass = s.1 ∧ s.2 < r.res.stackers.length then r.res.stackers.getD s.2.toNat [] else []
def ya8 (items : List Item) (runs : List Run) (src : List (Int × Int)) : List Int := src.flatMap fun s => ze0 items s ++ runs.flatMap (zM7 s)
theorem zZ5 {items : List Item} {s : Int × Int} {j : Nat} {x : Item} (h : items[j]? = some x) : ze0 (items.take (j + 1)) s = ze0 (items.take j) s ++ if s.1 = 0 ∧ x.batch = s.2 then [x.id] else [] := by
  rw [Go.Proofs.Ytdahckhlfldkkaa.take_snoc h]
  unfold ze0
  by_cases h0 : s.1 = 0
  · rw [if_pos h0, if_pos h0, List.filter_append, List.map_append]
    by_cases h1 : x.batch = s.2
    · rw [if_pos ⟨h0, h1⟩]; simp [h1]
    · rw [if_neg (fun e => h1 e.2)]; simp [h1]
  · rw [if_neg h0, if_neg h0, if_neg (fun e => h0 e.1)]; rfl
theorem zT4 {α β : Type} {l : List α} {j : Nat} {x : α} (f : α → List β) (h : l[j]? = some x) : (l.take (j + 1)).flatMap f = (l.take j).flatMap f ++ f x := by
  rw [Go.Proofs.Ytdahckhlfldkkaa.take_snoc h, List.flatMap_append]; simp
end Go.Sx.Plt
namespace Go.Sx.Plt
open Go.Proofs.Ytdahckhlfldkkaa (zh3 psF tkF zl3 zi4)
theorem zy3 {rel : Int} : ∀ {l : List Sh} {left : Int}, 0 ≤ left → zb6 (g8 rel left l) = min left (zn9 rel l)
  | [], left, h => by simp [g8, zb6, zn9]; omega
  | s :: r, left, h => by
    have hh : 0 ≤ zn9 rel r := by
      have : ∀ l : List Sh, 0 ≤ zn9 rel l := by
        intro l
        induction l with
        | nil => simp [zn9]
        | cons a l ih => rw [zn9]; omega
      exact this r
    rw [g8, zn9]
    by_cases hc : left = 0 ∨ s.t ≤ max s.f rel
    · rw [if_pos hc, zy3 h]
      rcases hc with h0 | h0 <;> omega
    · rw [if_neg hc, zb6, zy3 (by omega)]
      dsimp only
      omega
def Chain : Int → List (Int × Int) → Prop
  | _, [] => True
  | e, s :: r => (e ≤ s.1 ∧ s.1 < s.2) ∧ Chain s.2 r
theorem Chain.mono : ∀ {l : List (Int × Int)} {e e' : Int}, e' ≤ e → Chain e l → Chain e' l
  | [], _, _, _, _ => trivial
  | s :: r, e, e', h, hc => ⟨by have := hc.1; omega, hc.2⟩
theorem zA1 {rel : Int} : ∀ {l : List Sh} {left b : Int} {i : Nat}, 0 ≤ left → zi5 b i l = none → Chain (max b rel) (g8 rel left l)
  | [], _, _, _, _, _ => trivial
  | s :: r, left, b, i, h, hw => by
    rw [zi5] at hw
    split at hw
    · rename_i hs
      unfold Sh.ok at hs
      rw [g8]
      by_cases hc : left = 0 ∨ s.t ≤ max s.f rel
      · rw [if_pos hc]
        exact Chain.mono (by omega) (zA1 h hw)
      · rw [if_neg hc]
        refine ⟨by dsimp only; omega, ?_⟩
        dsimp only
        by_cases hl : left - (min s.t (max s.f rel + left) - max s.f rel) = 0
        · rw [hl]
          have : ∀ l : List Sh, g8 rel 0 l = [] := by
            intro l
            induction l with
            | nil => rfl
            | cons a l ih => rw [g8, if_pos (.inl rfl), ih]
          rw [this]; trivial
        · have hm : min s.t (max s.f rel + left) = s.t := by omega
          rw [hm]
          exact Chain.mono (by omega) (zA1 (by omega) hw)
    · cases hw
theorem zw2 {rel : Int} : ∀ {l : List Sh} {left : Int}, 0 ≤ left → ∀ s ∈ g8 rel left l, ∃ h ∈ l, h.f ≤ s.1 ∧ s.2 ≤ h.t
  | [], _, _, s, hs => by simp [g8] at hs
  | a :: r, left, h, s, hs => by
    rw [g8] at hs
    split at hs
    · obtain ⟨x, hx, h1⟩ := zw2 h s hs
      exact ⟨x, List.mem_cons_of_mem _ hx, h1⟩
    · rcases List.mem_cons.1 hs with rfl | hs
      · exact ⟨a, List.mem_cons_self, by dsimp only; omega, by dsimp only; omega⟩
      · obtain ⟨x, hx, h1⟩ := zw2 (by omega) s hs
        exact ⟨x, List.mem_cons_of_mem _ hx, h1⟩
theorem zI2 {k n : Int} {r : Int} (hr : 1 ≤ r) : k < (n + r - 1) / r ↔ k * r < n := by
  have h1 : k + 1 ≤ (n + r - 1) / r ↔ (k + 1) * r ≤ n + r - 1 := Int.le_ediv_iff_mul_le (by omega)
  have h2 : (k + 1) * r = k * r + r := by rw [Int.add_mul, Int.one_mul]
  rw [h2] at h1
  omega
theorem yl5 {k v : Int} : ∀ l : List Row, asF k (zg7 l) = some v → ∃ e ∈ l, e.stop = k ∧ e.st = v := by
  refine fun l => zn3 (p := fun l => asF k (zg7 l) = some v → ∃ e ∈ l, e.stop = k ∧ e.st = v) (fun h => by simp [zg7, asF] at h) (fun l e ih h => ?_) l
  rw [zw0, zj6] at h
  by_cases hk : e.stop = k
  · rw [if_pos hk] at h
    exact ⟨e, by simp, hk, by simpa using h⟩
  · rw [if_neg hk] at h
    obtain ⟨x, hx, h1⟩ := ih h
    exact ⟨x, List.mem_append.2 (.inl hx), h1⟩
theorem zW6 {n : Int} : ∀ {l : List Row} {met : List Int}, zf4 n met l → ∀ e ∈ l, 0 ≤ e.st ∧ e.st < n
  | [], _, _, e, h => by simp at h
  | a :: r, met, h, e, he => by
    rcases List.mem_cons.1 he with rfl | he
    · exact h.1.2
    · exact zW6 h.2 e he
theorem zV5 (stops : List (Int × Int)) (y : za3) (x : Int) : (zb8 stops y x).item = x := by unfold zb8; split <;> rfl
theorem yB9 {stops : List (Int × Int)} {y : za3} {n : Int} (hr : zf4 n [] y.table) (hn : 0 ≤ n) (x : Int) : -1 ≤ (zb8 stops y x).st ∧ (zb8 stops y x).st < n := by
  unfold zb8
  cases ho : asF ((asF x stops).getD 0) (zg7 y.table) with
  | none => dsimp only; omega
  | some k =>
    obtain ⟨e, he, _, rfl⟩ := yl5 _ ho
    have := zW6 hr e he
    dsimp only
    split <;> omega
theorem Valid.feeds {p : i8} (hv : Valid p) {i : Nat} {h : Hall} (hi : Inv p i h) {y : za3} (hy : p.passes[i]? = some y) {m : zb3} (hm : asF y.mach (zf3 p.ms) = some (m.caps.length : Int)) {items : List Int} (hit : items = y.src.flatMap h.row) : Srt.FdsOk m.caps.length (items.map (zb8 (zc1 p.items) y)) ∧ (∀ x ∈ items, x ∈ p.items.map Item.id) ∧ items.Nodup := by
  have hs := hv.src hy
  have hcount := fun x => hi.count hs.1 (fun s hs' => (hs.2 s hs').1) x
  rw [← hit] at hcount
  have hmem : ∀ x ∈ items, x ∈ p.items.map Item.id := fun x hx => by
    have h1 := List.count_pos_iff.2 hx
    have := hcount x
    exact List.count_pos_iff.1 (by omega)
  have hnd : items.Nodup := List.nodup_iff_count.2 fun x => by
    have := hcount x
    have := List.nodup_iff_count.1 hv.ind x
    omega
  refine ⟨⟨fun f hf => ?_, ?_, ?_⟩, hmem, hnd⟩
  · obtain ⟨x, hx, rfl⟩ := List.mem_map.1 hf
    obtain ⟨z, hz, e⟩ := List.mem_map.1 (hmem x hx)
    have hok := (hv.iok z hz).1
    unfold zB7 at hok
    have hrow := (hv.pok i y hy).2.2.2
    rw [hm, Option.getD_some] at hrow
    have := yB9 (stops := zc1 p.items) hrow (by omega) x
    unfold Srt.Fd.ok
    rw [zV5]
    omega
  · rw [zz1]; exact hnd
  · rw [List.length_map]
    have := hi.len hv hs.1 (fun s hs' => (hs.2 s hs').1)
    rw [← hit] at this
    exact this
structure Ran (p : i8) (h : Hall) (m : zb3) (y : za3) (r : Run) (ready : Int) : Prop where
  take : za5 h (max y.rel ((asF m.id h.free).getD 0)) [] y.src = some (ready, r.items)
  pass : r.pass = y.id
  res : Srt.zc7 m.caps m.sweeps (r.items.map (zb8 (zc1 p.items) y)) = (r.res, 0)
  hall : (zc7 h m (zc1 p.items) y).2 = ⟨ze8 y.id 0 r.res.stackers h.rows, ze5 y.id r.fin h.ends, ze5 m.id r.fin h.free⟩
  slices : r.slices = if r.items = [] then [] else g8 ready (zb2 r.items.length m.rate) m.shifts
  enough : zb2 r.items.length m.rate ≤ zn9 ready m.shifts
  start : r.start = if r.items = [] then ready else (r.slices.headD (0, 0)).1
  fin : r.fin = if r.items = [] then ready else (r.slices.getLastD (0, 0)).2
structure yI3 (p : i8) (h : Hall) (m : zb3) (y : za3) (r : Run) : Prop where
  eq : r = missed y
  hall : (zc7 h m (zc1 p.items) y).2 = h
  why : ∀ ready items, za5 h (max y.rel ((asF m.id h.free).getD 0)) [] y.src = some (ready, items) → zn9 ready m.shifts * m.rate < items.length
theorem zC0 {n : Nat} {r : Int} (hr : 1 ≤ r) : 0 ≤ zb2 n r := Int.ediv_nonneg (by omega) (by omega)
theorem zH9 (t : Int) : ∀ l : List Sh, 0 ≤ zn9 t l
  | [] => by simp [zn9]
  | a :: r => by have := zH9 t r; rw [zn9]; omega
theorem ys3 {p : i8} (hv : Valid p) {i : Nat} {h : Hall} (hi : Inv p i h) {y : za3} (hy : p.passes[i]? = some y) {m : zb3} (hm : asF y.mach (zf3 p.ms) = some (m.caps.length : Int)) (hr : zh8 m) :
    yI3 p h m y (zc7 h m (zc1 p.items) y).1 ∨ ∃ ready, Ran p h m y (zc7 h m (zc1 p.items) y).1 ready := by
  have hrate := hr.2.1.1
  cases ht : za5 h (max y.rel ((asF m.id h.free).getD 0)) [] y.src with
  | none =>
    have e : zc7 h m (zc1 p.items) y = (missed y, h) := by unfold zc7; rw [ht]
    exact .inl ⟨by rw [e], by rw [e], fun ready items hh => by rw [ht] at hh; cases hh⟩
  | some q =>
    obtain ⟨ready, items⟩ := q
    have hit := (zi3 ht).1
    rw [List.nil_append] at hit
    obtain ⟨hfd, _, _⟩ := hv.feeds hi hy hm hit
    have hcaps : Srt.zo5 m.caps ∧ 0 ≤ m.sweeps ∧ m.sweeps ≤ 1000 := by
      have h1 := hr.2.2.1
      unfold Srt.zc7 at h1
      split at h1
      · cases h1
      · rename_i hc
        split at h1
        · cases h1
        · rename_i hs
          exact ⟨Classical.not_not.1 hc, by omega, by omega⟩
    have hres := Srt.yF3 hcaps.1 hcaps.2 hfd
    by_cases hne : items = []
    · subst hne
      have e := Go.Proofs.Ytdahckhlfldkkaa.runF_idle (stops := zc1 p.items) ht
      rw [show Srt.zc7 m.caps m.sweeps [] = _ from hres] at e
      unfold Go.Proofs.Ytdahckhlfldkkaa.tailF at e
      rw [if_neg (by simp)] at e
      refine .inr ⟨ready, ?_⟩
      rw [e]
      refine ⟨ht, rfl, hres, by rw [e], rfl, ?_, rfl, rfl⟩
      have : zb2 ([] : List Int).length m.rate = 0 := by
        unfold zb2
        exact Int.ediv_eq_zero_of_lt (by simp; omega) (by simp; omega)
      dsimp only
      rw [this]
      exact zH9 _ _
    · have hsp := zy3 (rel := ready) (l := m.shifts) (zC0 (n := items.length) hrate)
      by_cases hl : g8 ready (zb2 items.length m.rate) m.shifts = [] ∨ zb6 (g8 ready (zb2 items.length m.rate) m.shifts) < zb2 items.length m.rate
      · have e := Go.Proofs.Ytdahckhlfldkkaa.runF_late (stops := zc1 p.items) ht hne hl
        refine .inl ⟨by rw [e], by rw [e], fun r2 i2 hh => ?_⟩
        rw [ht] at hh
        cases hh
        have hn1 : 1 ≤ zb2 items.length m.rate := by
          have := List.length_pos_iff.2 hne
          unfold zb2
          exact Int.le_ediv_of_mul_le (by omega) (by omega)
        have h2 : zn9 ready m.shifts < zb2 items.length m.rate := by
          rcases hl with h0 | h0
          · rw [h0, zb6] at hsp; omega
          · omega
        exact (zI2 hrate).1 h2
      · have e := Go.Proofs.Ytdahckhlfldkkaa.runF_busy (stops := zc1 p.items) ht hne hl
        rw [hres] at e
        unfold Go.Proofs.Ytdahckhlfldkkaa.tailF at e
        rw [if_neg (by simp)] at e
        refine .inr ⟨ready, ?_⟩
        rw [e]
        refine ⟨ht, rfl, hres, by rw [e], by dsimp only; rw [if_neg hne], by dsimp only; omega, by dsimp only; rw [if_neg hne], by dsimp only; rw [if_neg hne]⟩
end Go.Sx.Plt
namespace Go.Sx.Plt
open Go.Proofs.Ytdahckhlfldkkaa (zh3 psF tkF zl3 zi4)
theorem Valid.run {p : i8} (hv : Valid p) {i : Nat} {y : za3} (hy : p.passes[i]? = some y) {r : Run} (hr : (za4 p)[i]? = some r) : ∃ (k : Nat) (m : zb3), p.ms[k]? = some m ∧ m.id = y.mach ∧ zh8 m ∧ r = (zc7 (za0 p i) m (zc1 p.items) y).1 ∧ za0 p (i + 1) = (zc7 (za0 p i) m (zc1 p.items) y).2 ∧
    asF y.mach (zf3 p.ms) = some (m.caps.length : Int) ∧ (yI3 p (za0 p i) m y r ∨ ∃ ready, Ran p (za0 p i) m y r ready) := by
  obtain ⟨k, m, h1, h2, h3, h4, h5⟩ := hv.mach hy
  have hg := zD8 hy
  rw [hr, h3] at hg
  have e : r = (zc7 (za0 p i) m (zc1 p.items) y).1 := Option.some.inj hg
  refine ⟨k, m, h1, h2, h4, e, by rw [zB4 hy, h3], h5, ?_⟩
  rw [e]
  exact ys3 hv (Inv.all hv i) hy h5 h4
theorem yE4 {p : i8} {i : Nat} {y : za3} (h : p.passes[i]? = some y) : i < p.passes.length := (List.getElem?_eq_some_iff.1 h).1
theorem Valid.get {p : i8} {i : Nat} {y : za3} (h : p.passes[i]? = some y) : ∃ r, (za4 p)[i]? = some r := ⟨_, List.getElem?_eq_getElem (by rw [zh4]; exact yE4 h)⟩
theorem zK6 {p : i8} {i : Nat} (h : p.passes[i]? = none) : za0 p (i + 1) = za0 p i := by
  unfold za0
  rw [List.take_add_one, h]; simp
theorem yp2 (b : Int) : ∀ l : List Item, (asF ((0 : Int), b) (za1 [] l)).getD [] = ze0 l (0, b) := by
  refine fun l => zn3 (p := fun l => (asF ((0 : Int), b) (za1 [] l)).getD [] = ze0 l (0, b)) (by simp [za1, asF, ze0]) (fun l x ih => ?_) l
  rw [zy7, zj6]
  unfold ze0 at ih ⊢
  rw [if_pos rfl] at ih ⊢
  rw [List.filter_append, List.map_append]
  by_cases h : x.batch = b
  · rw [if_pos (by rw [h]), Option.getD_some, h, ih]; simp [h]
  · rw [if_neg (fun e => h (Prod.mk.inj e).2), ih]; simp [h]
theorem yi1 {s : Int × Int} (h : s.1 ≠ 0) (l : List Item) : asF s (za1 [] l) = none := by
  refine zn3 (p := fun l => asF s (za1 [] l) = none) (by simp [za1, asF]) (fun l x ih => ?_) l
  rw [zy7, zj6, if_neg (fun e => h (by rw [← e]))]
  exact ih
theorem zZ6 (y : za3) {s : Int × Int} (h : 0 ≤ s.2) : zM7 s (missed y) = [] := by
  unfold zM7
  rw [if_neg]
  rintro ⟨_, h2⟩
  simp [missed, Srt.M.new] at h2
  omega
theorem Valid.rows {p : i8} (hv : Valid p) {s : Int × Int} (hs : 0 ≤ s.2) : ∀ i, (za0 p i).row s = ze0 p.items s ++ ((za4 p).take i).flatMap (zM7 s)
  | 0 => by
    rw [zr3, List.take_zero, List.flatMap_nil, List.append_nil]
    unfold Hall.row zx6
    dsimp only
    by_cases h0 : s.1 = 0
    · obtain ⟨a, b⟩ := s
      dsimp only at h0
      subst h0
      exact yp2 b p.items
    · rw [yi1 h0]
      unfold ze0
      rw [if_neg h0]; rfl
  | i + 1 => by
    have ih := Valid.rows hv hs i
    cases hy : p.passes[i]? with
    | none =>
      have hl : p.passes.length ≤ i := by
        rcases Nat.lt_or_ge i p.passes.length with h | h
        · rw [List.getElem?_eq_getElem h] at hy; cases hy
        · exact h
      rw [zK6 hy, ih, List.take_of_length_le (by rw [zh4]; omega), List.take_of_length_le (by rw [zh4]; omega)]
    | some y =>
      obtain ⟨r, hr⟩ := Valid.get hy
      obtain ⟨k, m, _, _, _, hre, hh, _, hc⟩ := hv.run hy hr
      rw [zT4 _ hr, ← List.append_assoc, ← ih]
      rcases hc with hc | ⟨ready, hc⟩
      · rw [hh, hc.hall, hc.eq, zZ6 y hs, List.append_nil]
      · rw [hh, hc.hall]
        unfold Hall.row
        dsimp only
        obtain ⟨a, b⟩ := s
        dsimp only at hs
        rw [zu0]
        have hidn : y.id ≠ 0 := by
          have := (hv.pok i y hy).1.2.1
          unfold zB7 at this
          omega
        unfold zM7
        rw [hc.pass]
        dsimp only
        by_cases hid : a = y.id
        · subst hid
          have h0 : asF (y.id, b) (za0 p i).rows = none := (Inv.all hv i).row_early hidn (hv.new hy)
          rw [h0]
          by_cases hb : b < (r.res.stackers.length : Int)
          · rw [if_pos ⟨rfl, by omega, by omega⟩, if_pos ⟨rfl, hb⟩]
            simp [List.getD_eq_getElem?_getD]
          · rw [if_neg (by rintro ⟨_, _, h⟩; omega), if_neg (fun h => hb h.2)]; rfl
        · rw [if_neg (fun h => hid h.1), if_neg (fun h => hid h.1.symm), List.append_nil]
theorem yl3 {ps : List (Int × Int)} {s : Int × Int} (h : zi6 ps s) : 0 ≤ s.2 := by
  unfold zi6 at h
  split at h
  · omega
  · split at h
    · exact h.elim
    · exact h.1
theorem Valid.src_nn {p : i8} (hv : Valid p) {i : Nat} {y : za3} (hy : p.passes[i]? = some y) : ∀ s ∈ y.src, 0 ≤ s.2 := fun s hs => yl3 ((zE1 (hv.pok i y hy).2.1).2 s hs).2
theorem Valid.taken' {p : i8} (hv : Valid p) {i : Nat} {y : za3} (hy : p.passes[i]? = some y) : y.src.flatMap (za0 p i).row = ya8 p.items ((za4 p).take i) y.src := by
  unfold ya8
  have : ∀ l : List (Int × Int), (∀ s ∈ l, 0 ≤ s.2) → l.flatMap (za0 p i).row = l.flatMap fun s => ze0 p.items s ++ ((za4 p).take i).flatMap (zM7 s) := by
    intro l
    induction l with
    | nil => intro _; rfl
    | cons a l ih =>
      intro h
      rw [List.flatMap_cons, List.flatMap_cons, ih fun s hs => h s (List.mem_cons_of_mem _ hs), hv.rows (h a List.mem_cons_self) i]
  exact this _ (hv.src_nn hy)
theorem Valid.taken_len {p : i8} (hv : Valid p) {i : Nat} {y : za3} (hy : p.passes[i]? = some y) : (ya8 p.items ((za4 p).take i) y.src).length ≤ 2000 := by
  rw [← hv.taken' hy]
  have hs := hv.src hy
  exact (Inv.all hv i).len hv hs.1 fun s hs' => (hs.2 s hs').1
theorem Ran.items {p : i8} {i : Nat} {m : zb3} {y : za3} {r : Run} {ready : Int} (hc : Ran p (za0 p i) m y r ready) (hv : Valid p) (hy : p.passes[i]? = some y) : r.items = ya8 p.items ((za4 p).take i) y.src := by
  have := (zi3 hc.take).1
  rw [List.nil_append] at this
  rw [this, hv.taken' hy]
theorem zy9 {x : Int} : ∀ {l : List (List Int)} {k : Nat}, (l.getD k []).count x ≤ l.flatten.count x
  | [], k => by simp
  | a :: r, 0 => by rw [List.flatten_cons, List.count_append]; simp
  | a :: r, k + 1 => by
    have := zy9 (x := x) (l := r) (k := k)
    rw [List.flatten_cons, List.count_append]
    simp only [List.getD_cons_succ]
    omega
end Go.Sx.Plt
namespace Go.Sx.Plt
open Go.Proofs.Ytdahckhlfldkkaa (zh3 psF tkF zl3 zi4)
theorem Ran.stk_len {p : i8} {h : Hall} {m : zb3} {y : za3} {r : Run} {ready : Int} (hc : Ran p h m y r ready) : r.res.stackers.length = m.caps.length := by
  have := (zA2 hc.res).1
  rw [this]
  exact (Srt.zI5 m.caps m.sweeps _).st
def toF (l : List Row) (stop : Int) (b : Bool) : Int := if b = true then (asF stop (zg7 l)).getD (-1) else -1
theorem yn1 {stops : List (Int × Int)} {y : za3} {x s : Int} (h : asF x stops = some s) : (zb8 stops y x).st = toF y.table s (decide (x ∉ y.unread)) := by
  unfold zb8 toF
  rw [h, Option.getD_some]
  by_cases hu : x ∈ y.unread
  · rw [if_neg (by simp [hu])]
    split
    · simp [hu]
    · rfl
  · rw [if_pos (by simp [hu])]
    split
    · rename_i k hk; rw [hk]; simp [hu]
    · rename_i hk; rw [hk]; rfl
theorem Ran.mem {p : i8} (hv : Valid p) {i : Nat} {y : za3} (hy : p.passes[i]? = some y) {m : zb3} (hm : asF y.mach (zf3 p.ms) = some (m.caps.length : Int)) {r : Run} {ready : Int} (hc : Ran p (za0 p i) m y r ready) : (∀ x ∈ r.items, x ∈ p.items.map Item.id) ∧ r.items.Nodup ∧ r.items.length ≤ 2000 := by
  have e := (zi3 hc.take).1
  rw [List.nil_append] at e
  obtain ⟨_, h1, h2⟩ := hv.feeds (Inv.all hv i) hy hm e
  exact ⟨h1, h2, by rw [hc.items hv hy]; exact hv.taken_len hy⟩
theorem Ran.fin_bd {p : i8} (hv : Valid p) {i : Nat} {y : za3} (hy : p.passes[i]? = some y) {m : zb3} (hm : zh8 m) {r : Run} {ready : Int} (hc : Ran p (za0 p i) m y r ready) : (0 ≤ ready ∧ ready ≤ 1051898399) ∧ 0 ≤ r.fin ∧ r.fin ≤ 1051898399 := by
  have hrd := (Inv.all hv i).ready (hv.pok i y hy).1.2.2 hc.take
  refine ⟨hrd, (Inv.all hv i).fin (start := r.start) (sl := r.slices) hv hy hm hc.take ?_⟩
  by_cases hne : r.items = []
  · exact .inl ⟨hne, by rw [hc.slices, if_pos hne], by rw [hc.start, if_pos hne], by rw [hc.fin, if_pos hne]⟩
  · have hsl := hc.slices
    have hst := hc.start
    have hfi := hc.fin
    rw [if_neg hne] at hsl hst hfi
    have hsp := zy3 (rel := ready) (l := m.shifts) (zC0 (n := r.items.length) hm.2.1.1)
    have he := hc.enough
    have hn1 : 1 ≤ zb2 r.items.length m.rate := by
      have := List.length_pos_iff.2 hne
      have := hm.2.1.1
      unfold zb2
      exact Int.le_ediv_of_mul_le (by omega) (by omega)
    refine .inr ⟨hne, hsl, fun h0 => ?_, by rw [hsl, hsp]; omega, hst, hfi⟩
    rw [← hsl, h0, zb6] at hsp
    omega
end Go.Sx.Plt
namespace Go.Sx.Plt
open Go.Proofs.Ytdahckhlfldkkaa (zh3 psF tkF zl3 zi4)
def zN6 (e : Int) (l : List (Int × Int)) : Int := match l.getLast? with
  | some s => s.2
  | none => e
theorem zH3 (e : Int) : zN6 e [] = e := rfl
theorem yp9 (e : Int) {l : List (Int × Int)} (h : l ≠ []) : zN6 e l = (l.getLastD (0, 0)).2 := by
  unfold zN6
  rw [List.getLastD_eq_getLast?]
  cases hl : l.getLast? with
  | none => rw [List.getLast?_eq_none_iff] at hl; exact (h hl).elim
  | some s => rfl
theorem yc0 : ∀ {l : List (Int × Int)} {e : Int} {j : Nat} {s : Int × Int}, Chain e l → l[j]? = some s → zN6 e (l.take j) ≤ s.1 ∧ s.1 < s.2
  | [], _, _, _, _, h => by simp at h
  | a :: r, e, 0, s, hc, h => by
    simp at h; subst h
    rw [List.take_zero, zH3]; exact hc.1
  | a :: r, e, j + 1, s, hc, h => by
    have h' : r[j]? = some s := by simpa using h
    have ih := yc0 hc.2 h'
    rw [List.take_succ_cons]
    have : zN6 e (a :: r.take j) = zN6 a.2 (r.take j) := by
      unfold zN6
      rw [List.getLast?_cons]
      cases (r.take j).getLast? <;> rfl
    rw [this]; exact ih
theorem zV2 : ∀ {l : List (Int × Int)} {e : Int}, Chain e l → e ≤ zN6 e l
  | [], e, _ => by rw [zH3]; omega
  | a :: r, e, hc => by
    have ih := zV2 hc.2
    have : zN6 e (a :: r) = zN6 a.2 r := by
      unfold zN6
      rw [List.getLast?_cons]
      cases r.getLast? <;> rfl
    rw [this]
    have := hc.1
    omega
theorem Ran.chain {p : i8} {h : Hall} {m : zb3} {y : za3} {r : Run} {ready : Int} (hc : Ran p h m y r ready) (hm : zh8 m) : Chain ready r.slices ∧ (∀ s ∈ r.slices, ∃ x ∈ m.shifts, x.f ≤ s.1 ∧ s.2 ≤ x.t) ∧ zb6 r.slices = zb2 r.items.length m.rate ∧ r.fin = zN6 ready r.slices ∧ ((r.slices = [] ∧ r.start = ready) ∨ ∃ s, r.slices[0]? = some s ∧ r.start = s.1) ∧ ready ≤ r.start := by
  have hw := (zz8 hm).2
  have hn0 := zC0 (n := r.items.length) hm.2.1.1
  have hch := Chain.mono (show ready ≤ max 0 ready by omega) (zA1 (rel := ready) hn0 hw)
  have hsl := hc.slices
  have hst := hc.start
  have hfi := hc.fin
  by_cases hne : r.items = []
  · rw [if_pos hne] at hsl hst hfi
    have hz : zb2 r.items.length m.rate = 0 := by
      rw [hne]
      unfold zb2
      have := hm.2.1.1
      exact Int.ediv_eq_zero_of_lt (by simp; omega) (by simp; omega)
    rw [hsl, hz]
    exact ⟨trivial, by simp, rfl, by rw [zH3]; exact hfi, .inl ⟨rfl, hst⟩, by omega⟩
  · rw [if_neg hne] at hsl hst hfi
    have hsp := zy3 (rel := ready) (l := m.shifts) hn0
    have he := hc.enough
    have hn1 : 1 ≤ zb2 r.items.length m.rate := by
      have := List.length_pos_iff.2 hne
      have := hm.2.1.1
      unfold zb2
      exact Int.le_ediv_of_mul_le (by omega) (by omega)
    rw [← hsl] at hsp hch
    have hnn : r.slices ≠ [] := fun h0 => by rw [h0, zb6] at hsp; omega
    obtain ⟨s, l, e⟩ := List.exists_cons_of_ne_nil hnn
    have h0 : r.slices[0]? = some s := by rw [e]; rfl
    have hs1 : r.start = s.1 := by rw [hst, e]; rfl
    refine ⟨hch, fun s hs => ?_, by rw [hsp]; omega, by rw [yp9 _ hnn]; exact hfi, .inr ⟨s, h0, hs1⟩, ?_⟩
    · rw [hsl] at hs
      exact zw2 hn0 s hs
    · have := yc0 hch h0
      rw [List.take_zero, zH3] at this
      omega
theorem Ran.fin_ge {p : i8} {h : Hall} {m : zb3} {y : za3} {r : Run} {ready : Int} (hc : Ran p h m y r ready) (hm : zh8 m) : ready ≤ r.fin := by
  obtain ⟨h1, _, _, h4, _⟩ := hc.chain hm
  rw [h4]; exact zV2 h1
def zx2 (p : i8) (j : Nat) : Int := match (za4 p)[j]? with
  | some r => r.fin
  | none => -1
theorem zO1 {p : i8} {j : Nat} {r : Run} (h : (za4 p)[j]? = some r) : zx2 p j = r.fin := by unfold zx2; rw [h]
theorem zK4 {p : i8} (hv : Valid p) : ∀ (i : Nat) (id e : Int), asF id (za0 p i).ends = some e ↔ ∃ (j : Nat) (y : za3), j < i ∧ p.passes[j]? = some y ∧ y.id = id ∧ zx2 p j = e ∧ 0 ≤ e
  | 0, id, e => by
    rw [zr3]
    simp [zx6, asF]
  | i + 1, id, e => by
    have ih := zK4 hv i id e
    cases hy : p.passes[i]? with
    | none =>
      rw [zK6 hy, ih]
      constructor
      · rintro ⟨j, y, h1, h2⟩; exact ⟨j, y, by omega, h2⟩
      · rintro ⟨j, y, h1, h2, h3⟩
        by_cases hj : j = i
        · subst hj; rw [hy] at h2; cases h2
        · exact ⟨j, y, by omega, h2, h3⟩
    | some y =>
      obtain ⟨r, hr⟩ := Valid.get hy
      obtain ⟨k, m, _, _, hmr, hre, hh, _, hc⟩ := hv.run hy hr
      have hfr := zO1 hr
      rcases hc with hc | ⟨ready, hc⟩
      · have hf : zx2 p i = -1 := by rw [hfr, hc.eq]; rfl
        rw [hh, hc.hall, ih]
        constructor
        · rintro ⟨j, y', h1, h2⟩; exact ⟨j, y', by omega, h2⟩
        · rintro ⟨j, y', h1, h2, h3, h4, h5⟩
          by_cases hj : j = i
          · subst hj; omega
          · exact ⟨j, y', by omega, h2, h3, h4, h5⟩
      · have hfb := (hc.fin_bd hv hy hmr).2
        rw [hh, hc.hall]
        dsimp only
        rw [zj6]
        by_cases hid : y.id = id
        · rw [if_pos hid]
          constructor
          · intro he; exact ⟨i, y, by omega, hy, hid, by rw [hfr]; exact Option.some.inj he, by have := Option.some.inj he; omega⟩
          · rintro ⟨j, y', h1, h2, h3, h4, h5⟩
            by_cases hj : j = i
            · subst hj; rw [← h4, hfr]
            · exact (hv.new hy ⟨j, y', by omega, h2, by rw [h3, hid]⟩).elim
        · rw [if_neg hid, ih]
          constructor
          · rintro ⟨j, y', h1, h2⟩; exact ⟨j, y', by omega, h2⟩
          · rintro ⟨j, y', h1, h2, h3, h4⟩
            by_cases hj : j = i
            · subst hj; rw [hy] at h2; cases h2; exact (hid h3).elim
            · exact ⟨j, y', by omega, h2, h3, h4⟩
theorem zD0 {h : Hall} : ∀ {l : List (Int × Int)} {r0 ready : Int} {acc items : List Int}, za5 h r0 acc l = some (ready, items) → r0 ≤ ready ∧ (∀ s ∈ l, s.1 ≠ 0 → ∃ e, asF s.1 h.ends = some e ∧ e ≤ ready) ∧ (ready = r0 ∨ ∃ s ∈ l, s.1 ≠ 0 ∧ asF s.1 h.ends = some ready)
  | [], r0, ready, acc, items, hh => by
    simp only [za5, Option.some.injEq, Prod.mk.injEq] at hh
    exact ⟨by omega, by simp, .inl hh.1.symm⟩
  | (s1, s2) :: l, r0, ready, acc, items, hh => by
    rw [za5] at hh
    by_cases h0 : s1 = 0
    · subst h0
      rw [if_neg (by simp)] at hh
      obtain ⟨h1, h2, h3⟩ := zD0 hh
      refine ⟨h1, fun s hs hs0 => ?_, h3.imp id fun ⟨s, hs, h⟩ => ⟨s, List.mem_cons_of_mem _ hs, h⟩⟩
      rcases List.mem_cons.1 hs with rfl | hs
      · exact (hs0 rfl).elim
      · exact h2 s hs hs0
    · rw [if_pos h0] at hh
      cases he : asF s1 h.ends with
      | none => simp only [he] at hh; cases hh
      | some e =>
        simp only [he] at hh
        obtain ⟨h1, h2, h3⟩ := zD0 hh
        have m1 : r0 ≤ max r0 e := Int.le_max_left r0 e
        have m2 : e ≤ max r0 e := Int.le_max_right r0 e
        refine ⟨Int.le_trans m1 h1, fun s hs hs0 => ?_, ?_⟩
        · rcases List.mem_cons.1 hs with rfl | hs
          · exact ⟨e, he, Int.le_trans m2 h1⟩
          · exact h2 s hs hs0
        · rcases h3 with h3 | ⟨s, hs, h3⟩
          · by_cases hm : e ≤ r0
            · exact .inl (by rw [h3]; exact Int.max_eq_left hm)
            · exact .inr ⟨(s1, s2), List.mem_cons_self, h0, by rw [he, h3]; congr 1; exact (Int.max_eq_right (by omega)).symm⟩
          · exact .inr ⟨s, List.mem_cons_of_mem _ hs, h3⟩
theorem free_spec {p : i8} (hv : Valid p) : ∀ (i : Nat) (mid : Int), 0 ≤ (asF mid (za0 p i).free).getD 0 ∧ (∀ (j : Nat) (y : za3), j < i → p.passes[j]? = some y → y.mach = mid → zx2 p j ≤ (asF mid (za0 p i).free).getD 0) ∧
    ((asF mid (za0 p i).free).getD 0 = 0 ∨ ∃ (j : Nat) (y : za3), j < i ∧ p.passes[j]? = some y ∧ y.mach = mid ∧ zx2 p j = (asF mid (za0 p i).free).getD 0)
  | 0, mid => by
    rw [zr3]
    refine ⟨by simp [zx6, asF], fun j y h => by omega, .inl (by simp [zx6, asF])⟩
  | i + 1, mid => by
    obtain ⟨a1, a2, a3⟩ := free_spec hv i mid
    cases hy : p.passes[i]? with
    | none =>
      rw [zK6 hy]
      refine ⟨a1, fun j y h1 h2 h3 => ?_, a3.imp id fun ⟨j, y, h1, h2⟩ => ⟨j, y, by omega, h2⟩⟩
      by_cases hj : j = i
      · subst hj; rw [hy] at h2; cases h2
      · exact a2 j y (by omega) h2 h3
    | some y =>
      obtain ⟨r, hr⟩ := Valid.get hy
      obtain ⟨k, m, hmk, hmid, hmr, hre, hh, _, hc⟩ := hv.run hy hr
      have hfr := zO1 hr
      rcases hc with hc | ⟨ready, hc⟩
      · have hf : zx2 p i = -1 := by rw [hfr, hc.eq]; rfl
        rw [hh, hc.hall]
        refine ⟨a1, fun j y' h1 h2 h3 => ?_, a3.imp id fun ⟨j, y, h1, h2⟩ => ⟨j, y, by omega, h2⟩⟩
        by_cases hj : j = i
        · subst hj; omega
        · exact a2 j y' (by omega) h2 h3
      · have hfb := (hc.fin_bd hv hy hmr).2
        have hge := hc.fin_ge hmr
        have hrd := (zD0 hc.take).1
        rw [hh, hc.hall]
        dsimp only
        rw [zj6]
        by_cases hid : m.id = mid
        · rw [if_pos hid, Option.getD_some]
          rw [hid] at hrd
          refine ⟨hfb.1, fun j y' h1 h2 h3 => ?_, .inr ⟨i, y, by omega, hy, by rw [← hmid]; exact hid, hfr⟩⟩
          by_cases hj : j = i
          · subst hj; omega
          · have := a2 j y' (by omega) h2 h3; omega
        · rw [if_neg hid]
          refine ⟨a1, fun j y' h1 h2 h3 => ?_, a3.imp id fun ⟨j, y, h1, h2⟩ => ⟨j, y, by omega, h2⟩⟩
          by_cases hj : j = i
          · subst hj; rw [hy] at h2; cases h2; exact (hid (by rw [hmid]; exact h3)).elim
          · exact a2 j y' (by omega) h2 h3
def yz4 (src : List (Int × Int)) (id : Int) : Bool := src.any fun s => s.1 = id
def rdF (p : i8) (y : za3) : Nat → Int × Bool
  | 0 => (y.rel, true)
  | j + 1 => match p.passes[j]? with
    | some z => (if yz4 y.src z.id = true ∨ z.mach = y.mach then max (rdF p y j).1 (zx2 p j) else (rdF p y j).1, (rdF p y j).2 && (!yz4 y.src z.id || decide (0 ≤ zx2 p j)))
    | none => rdF p y j
theorem fin_bd {p : i8} (hv : Valid p) (j : Nat) : -1 ≤ zx2 p j ∧ zx2 p j ≤ 1051898399 := by
  unfold zx2
  cases hr : (za4 p)[j]? with
  | none => dsimp only; omega
  | some r =>
    dsimp only
    obtain ⟨y, hy⟩ : ∃ y, p.passes[j]? = some y := ⟨_, List.getElem?_eq_getElem (by have := (List.getElem?_eq_some_iff.1 hr).1; rw [zh4] at this; exact this)⟩
    obtain ⟨k, m, _, _, hmr, _, _, _, hc⟩ := hv.run hy hr
    rcases hc with hc | ⟨ready, hc⟩
    · rw [hc.eq]; show -1 ≤ (-1 : Int) ∧ (-1 : Int) ≤ 1051898399; omega
    · have := (hc.fin_bd hv hy hmr).2; omega
theorem zX8 : ∀ {l : List Sh} {b : Int} {i : Nat}, 0 ≤ b → zi5 b i l = none → ∀ s ∈ l, 0 ≤ s.f ∧ s.f < s.t ∧ s.t ≤ 1051898399
  | [], _, _, _, _, s, hs => by simp at hs
  | a :: r, b, i, hb, h, s, hs => by
    rw [zi5] at h
    split at h
    · rename_i ha
      unfold Sh.ok at ha
      rcases List.mem_cons.1 hs with rfl | hs
      · omega
      · exact zX8 (by omega) h s hs
    · cases h
def yO5 (sf su : Int) (l : List Sh) : Bool := l.any fun h => decide (h.f ≤ sf ∧ su ≤ h.t)
end Go.Sx.Plt
