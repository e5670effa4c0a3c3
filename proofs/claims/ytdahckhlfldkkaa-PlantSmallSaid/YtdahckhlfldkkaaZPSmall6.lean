/- A part of the proofs of this seat: a small logic of walks, plain laws, and what some of the program's functions compute, shown by walks through their code. Conditions: the hypotheses that each theorem names. -/
import Derived.Test.YtdahckhlfldkkaaZPSmall3
import Derived.Test.YtdahckhlfldkkaaZPSmall5
import Derived.Laws.IdiomStrings
set_option linter.unusedSimpArgs false
set_option linter.unusedVariables false
set_option linter.unusedSectionVars false
namespace Go.Sx.Plt
def zd6 (id : Int) (l : List (Int × Int)) : List (Int × Int × Int) := l.map fun s => (id, s.1, s.2)
theorem zy0 (id : Int) (l : List (Int × Int)) (s : Int × Int) : zd6 id (l ++ [s]) = zd6 id l ++ [(id, s.1, s.2)] := by simp [zd6]
theorem zj6 (id : Int) (l : List (Int × Int)) : (zd6 id l).length = l.length := by simp [zd6]
theorem yg5 {rel left : Int} {s : Sh} {r : List Sh} (h : left = 0 ∨ s.t ≤ max s.f rel) : g9 rel left (s :: r) = g9 rel left r := by rw [g9, if_pos h]
theorem yg7 {rel left : Int} {s : Sh} {r : List Sh} (h : ¬ (left = 0 ∨ s.t ≤ max s.f rel)) : g9 rel left (s :: r) = (max s.f rel, min s.t (max s.f rel + left)) :: g9 rel (left - (min s.t (max s.f rel + left) - max s.f rel)) r := by rw [g9, if_neg h]
theorem zY5 : ∀ {l : List Sh} {b : Int} {i : Nat}, zi8 b i l = none → 0 ≤ b → ∀ s ∈ l, 0 ≤ s.f ∧ s.f < s.t ∧ s.t ≤ 1051898399
  | [], _, _, _, _, s, h => by cases h
  | a :: l, b, i, hw, hb, s, h => by
    rw [zi8] at hw
    by_cases ha : a.ok b
    · rw [if_pos ha] at hw
      have ha' := ha
      unfold Sh.ok at ha'
      rcases List.mem_cons.1 h with rfl | h
      · omega
      · exact zY5 hw (by omega) s h
    · rw [if_neg ha] at hw; cases hw
theorem zy4 {j : Job} {l : List Sh} (h : zb7 [j] l = (0, 0)) : j.ok ∧ l.length ≤ 200 ∧ ∀ s ∈ l, 0 ≤ s.f ∧ s.f < s.t ∧ s.t ≤ 1051898399 := by
  unfold zb7 at h
  split at h
  · cases h
  · rename_i hb
    split at h
    · cases h
    · rename_i h1
      split at h
      · cases h
      · rename_i h2
        refine ⟨?_, by omega, zY5 h2 (by omega)⟩
        rw [zr7] at h1
        split at h1
        · rename_i h3; exact h3.1
        · cases h1
end Go.Sx.Plt
namespace Go.Proofs.Ytdahckhlfldkkaa
open Go Go.Sx Go.RowKit
attribute [local irreducible] WL WC WQ WR WB WF QB St Exit.then Exit.inBlock Exit.noGoto bodyPost roundPost zc1 YR RG BM Calls B zc7 ze3
theorem OW.some {α : Type} {E : TypeId} {k : Nat} {enc : α → List Value} {a : Option Addr} {n cap : Nat} {xs : List α} {N : List Ent} (h : OW E k enc (.slice a n cap) xs N) (h0 : 0 < n) : ∃ b s, a = some ⟨b, 0, none⟩ ∧ N = [⟨b, Ce (xs.flatMap enc ++ s) E, true⟩] := by
  obtain ⟨_, _, e, _, hop⟩ := h.open
  cases e
  obtain ⟨b, s, h1, h2, _⟩ := hop h0
  exact ⟨b, s, h1, h2⟩
def zj8 (x : Int × Int × Int) : List Value := [.int .i64 x.1, .int .i64 x.2.1, .int .i64 x.2.2]
theorem ze9 : ∀ x, (zj8 x).length = 3 := fun _ => rfl
theorem zw7 : ∀ x, (zj8 x).all (·.oneCell') = true := fun _ => rfl
theorem zm9 {jv : Value} {j : Plt.Job} {m r : Int} (hr : r = if j.rel > m then j.rel else 1051898400) (hj0 : j.rel ≤ 1051898399) (w : World) (h : SV w 4 zs7 jv [j]) : Calls Try.prog 67 #[jv, .int .i64 m] w fun e w' => e = .returned (.int .i64 r) ∧ Below w.heap.size w w' := by
  obtain ⟨_, _, rfl, hc, hop⟩ := h.open
  obtain ⟨b, off, cc, e, fz, rfl, hk, hpt⟩ := hop (by simp)
  have g1 : ∀ k u, ([.int .i64 j.id, .int .i64 j.rel, .int .i64 j.due, .int .i64 j.mins] : List Value)[k]? = some u → cc[off + 0 * 4 + k]? = some u := hpt.get (m := 0) rfl
  simp only [List.length_cons, List.length_nil] at h hc ⊢
  refine za8 Try.func67 rfl Try.ntmps67 rfl (Rep.start w) ?_
  repeat' (first | ((first | apply w9 | apply y8 | apply x8); exact rfl; exact rfl) | (apply o9; infer_instance; exact rfl; exact rfl) | ((first | apply s9 | apply x9 | apply z8 | apply s7 | apply s8 | apply w4 | apply z9 | apply w5)) | ((first | apply w6 | apply z6 | apply z0 | apply p5 | apply y0 | apply z7)))
  apply j9 (σ := Nat) (Fs := fun i => [(10, .int .i64 i), (9, .int .i64 1), (8, .slice (some ⟨b, off, none⟩) 1 _), (5, .int .i64 (if i = 0 then 1051898400 else r)), (1, .int .i64 m)])
    (Ls := fun i => []) (I := fun i => i ≤ 1) (μ := fun i => 1 - i) (s0 := 0)
  · exact Nat.zero_le _
  · exact fS_
  · exact hS_
  intro i hi
  have hi : i ≤ 1 := hi
  by_cases hlt : i < 1
  · obtain rfl : i = 0 := by omega
    by_cases hm : j.rel > m
    · rw [if_pos hm] at hr
      have hmin : (if j.rel < 1051898400 then j.rel else 1051898400) = r := by rw [hr]; split <;> omega
      as_aux_lemma =>
        repeat' (first | (apply v8; exact rfl; exact dT_) | ((first | apply m8 (m := 0)); infer_instance; infer_instance; exact rfl; exact rfl; omega; exact rfl; omega) | ((first | apply w9 | apply y8 | apply x8); exact rfl; exact rfl) | (apply w7; first | refine u9 (h := ?_) | refine y9 (h := ?_) | refine w8 (h := ?_) | refine q6 (h := ?_) | refine q0 (h := ?_)) | ((first | apply p3 | apply o8 | apply zn6); exact rfl; exact rfl; exact rfl) | (apply j0; exact rfl; exact rfl; exact rfl; (constructor <;> omega)) | (apply o7; exact rfl; intro _) | (apply q7; first | refine q8 (h := ?_) | refine q9 (h := ?_)) | ((first | apply s9 | apply x9 | apply z8 | apply s7 | apply s8 | apply w4 | apply z9 | apply w5)) | ((first | apply w6 | apply z6 | apply z0 | apply p5 | apply y0 | apply z7)))
        refine o0 1 (by omega) (by omega) ?_ ?_
        · simp only [Nat.one_ne_zero, if_false]; rw [← hmin]; exact fS_
        · exact hS_
    · rw [if_neg hm] at hr
      as_aux_lemma =>
        repeat' (first | (apply v8; exact rfl; exact dT_) | (apply v9; exact rfl; exact dF_) | ((first | apply m8 (m := 0)); infer_instance; infer_instance; exact rfl; exact rfl; omega; exact rfl; omega) | ((first | apply w9 | apply y8 | apply x8); exact rfl; exact rfl) | (apply w7; first | refine u9 (h := ?_) | refine y9 (h := ?_) | refine w8 (h := ?_) | refine q6 (h := ?_) | refine q0 (h := ?_)) | ((first | apply p3 | apply o8 | apply zn6); exact rfl; exact rfl; exact rfl) | (apply j0; exact rfl; exact rfl; exact rfl; (constructor <;> omega)) | (apply o7; exact rfl; intro _) | (apply q7; first | refine q8 (h := ?_) | refine q9 (h := ?_)) | ((first | apply s9 | apply x9 | apply z8 | apply s7 | apply s8 | apply w4 | apply z9 | apply w5)) | ((first | apply w6 | apply z6 | apply z0 | apply p5 | apply y0 | apply z7)))
        refine o0 1 (by omega) (by omega) ?_ ?_
        · simp only [Nat.one_ne_zero, if_false]; rw [hr]; exact fS_
        · exact hS_
  obtain rfl : i = 1 := by omega
  repeat' (first | (apply v9; exact rfl; exact dF_) | ((first | apply w9 | apply y8 | apply x8); exact rfl; exact rfl) | ((first | apply p3 | apply o8 | apply zn6); exact rfl; exact rfl; exact rfl) | ((first | apply s9 | apply x9 | apply z8 | apply s7 | apply s8 | apply w4 | apply z9 | apply w5)) | ((first | apply w6 | apply z6 | apply z0 | apply p5 | apply y0 | apply z7)))
  apply p8; apply zb0 Try.results67; exact rV_; intro w' hw
  exact ⟨rfl, hw.below (by simp)⟩
theorem zU3 {j : Plt.Job} {m left : Int} {b2 b8 br bj oj cj cr : Nat} {sr : List Value} (w : World) (h2 : w.heap[b2]? = some (Ce [.slice (some ⟨bj, oj, none⟩) 1 cj] 168)) (h8 : w.heap[b8]? = some (Ce [.slice (some ⟨br, 0, none⟩) 1 cr] 44)) (hr : w.heap[br]? = some (Ce (.int .i64 left :: sr) 3)) (h : SV w 4 zs7 (.slice (some ⟨bj, oj, none⟩) 1 cj) [j]) :
    Calls Try.prog 65 #[.int .i64 m, ptr b2, ptr b8] w fun e w' => e = .returned (.int .i64 (if j.rel > m ∨ left = 0 then -1 else 0)) ∧ Below w.heap.size w w' := by
  obtain ⟨_, _, e0, hc, hop⟩ := h.open
  cases e0
  obtain ⟨b, off, cc, e, fz, e1, hk, hpt⟩ := hop (by simp)
  obtain ⟨rfl, rfl⟩ : bj = b ∧ oj = off := by cases e1; exact ⟨rfl, rfl⟩
  have g1 : ∀ k u, ([.int .i64 j.id, .int .i64 j.rel, .int .i64 j.due, .int .i64 j.mins] : List Value)[k]? = some u → cc[oj + 0 * 4 + k]? = some u := hpt.get (m := 0) rfl
  have g2 : ((.int .i64 left :: sr) : List Value).toArray[0 + 0 * 1]? = some (.int .i64 left) := by simp
  by_cases hn : j.rel > m ∨ left = 0
  · rw [if_pos hn]
    refine zd8 Try.func65 rfl Try.ntmps65 rfl (Rep.start w) ?_
    repeat' (first | ((first | apply w9 | apply y8 | apply x8); exact rfl; exact rfl) | (apply w7; first | refine u9 (h := ?_) | refine y9 (h := ?_) | refine w8 (h := ?_) | refine q6 (h := ?_) | refine q0 (h := ?_)) | (apply o9; infer_instance; exact rfl; exact rfl) | ((first | apply s9 | apply x9 | apply z8 | apply s7 | apply s8 | apply w4 | apply z9 | apply w5)) | ((first | apply w6 | apply z6 | apply z0 | apply p5 | apply y0 | apply z7)))
    apply j9 (σ := Nat) (Fs := fun i => [(10, .int .i64 i), (9, .int .i64 1), (8, .slice (some ⟨bj, oj, none⟩) 1 cj), (5, .int .i64 (-1)), (0, .int .i64 m), (1, ptr b2), (2, ptr b8)])
      (Ls := fun i => []) (I := fun i => i ≤ 1) (μ := fun i => 1 - i) (s0 := 0)
    · exact Nat.zero_le _
    · exact fS_
    · exact hS_
    intro i hi
    have hi : i ≤ 1 := hi
    by_cases hlt : i < 1
    · obtain rfl : i = 0 := by omega
      as_aux_lemma =>
        repeat' (first | ((first | apply m8 (m := 0) | apply zc3 (m := 0)); infer_instance; infer_instance; exact rfl; exact rfl; omega; exact rfl; omega) | ((first | apply w9 | apply y8 | apply x8); exact rfl; exact rfl) | (apply w7; first | refine u9 (h := ?_) | refine y9 (h := ?_) | refine w8 (h := ?_) | refine q6 (h := ?_) | refine q0 (h := ?_)) | ((first | apply p3 | apply o8 | apply l0); exact rfl; exact rfl; exact rfl) | (apply j0; exact rfl; exact rfl; exact rfl; (constructor <;> omega)) | (apply n8; exact rfl; exact tT_; exact rfl; exact rfl) | (apply p9; exact rfl; exact fF_; exact rfl; exact rfl) | (apply o7; exact rfl; intro _) | (apply q7; first | refine q8 (h := ?_) | refine q9 (h := ?_)) | ((first | apply k9); exact rfl; exact gG_) | (apply za5; exact rfl; exact gG_; exact rfl) | ((first | apply s9 | apply x9 | apply z8 | apply s7 | apply s8 | apply w4 | apply z9 | apply w5)) | (apply v8; exact rfl; exact tT_) | ((first | apply w6 | apply z6 | apply z0 | apply p5 | apply y0 | apply z7)) | (apply zd3; exact rfl; intro hcond; rotate_left; intro hcond; rotate_left))
        all_goals first
          | (exfalso; omega)
          | skip
        all_goals
          refine o0 1 (by omega) (by omega) ?_ ?_
          · exact fS_
          · exact hS_
    obtain rfl : i = 1 := by omega
    repeat' (first | (apply v9; exact rfl; exact dF_) | ((first | apply w9 | apply y8 | apply x8); exact rfl; exact rfl) | ((first | apply p3 | apply o8 | apply l0); exact rfl; exact rfl; exact rfl) | ((first | apply s9 | apply x9 | apply z8 | apply s7 | apply s8 | apply w4 | apply z9 | apply w5)) | ((first | apply w6 | apply z6 | apply z0 | apply p5 | apply y0 | apply z7)))
    apply p8; apply zb0 Try.results65; exact rV_; intro w' hw
    exact ⟨rfl, hw.below (by simp)⟩
  · rw [if_neg hn]
    refine zd8 Try.func65 rfl Try.ntmps65 rfl (Rep.start w) ?_
    repeat' (first | ((first | apply w9 | apply y8 | apply x8); exact rfl; exact rfl) | (apply w7; first | refine u9 (h := ?_) | refine y9 (h := ?_) | refine w8 (h := ?_) | refine q6 (h := ?_) | refine q0 (h := ?_)) | (apply o9; infer_instance; exact rfl; exact rfl) | ((first | apply s9 | apply x9 | apply z8 | apply s7 | apply s8 | apply w4 | apply z9 | apply w5)) | ((first | apply w6 | apply z6 | apply z0 | apply p5 | apply y0 | apply z7)))
    apply j9 (σ := Nat) (Fs := fun i => [(10, .int .i64 i), (9, .int .i64 1), (8, .slice (some ⟨bj, oj, none⟩) 1 cj), (5, .int .i64 (if i = 0 then -1 else 0)), (0, .int .i64 m), (1, ptr b2), (2, ptr b8)])
      (Ls := fun i => []) (I := fun i => i ≤ 1) (μ := fun i => 1 - i) (s0 := 0)
    · exact Nat.zero_le _
    · exact fS_
    · exact hS_
    intro i hi
    have hi : i ≤ 1 := hi
    by_cases hlt : i < 1
    · obtain rfl : i = 0 := by omega
      as_aux_lemma =>
        repeat' (first | ((first | apply m8 (m := 0) | apply zc3 (m := 0)); infer_instance; infer_instance; exact rfl; exact rfl; omega; exact rfl; omega) | ((first | apply w9 | apply y8 | apply x8); exact rfl; exact rfl) | (apply w7; first | refine u9 (h := ?_) | refine y9 (h := ?_) | refine w8 (h := ?_) | refine q6 (h := ?_) | refine q0 (h := ?_)) | ((first | apply p3 | apply o8 | apply l0); exact rfl; exact rfl; exact rfl) | (apply j0; exact rfl; exact rfl; exact rfl; (constructor <;> omega)) | (apply p9; exact rfl; exact fF_; exact rfl; exact rfl) | (apply o7; exact rfl; intro _) | (apply q7; first | refine q8 (h := ?_) | refine q9 (h := ?_)) | ((first | apply k9); exact rfl; exact gG_) | ((first | apply s9 | apply x9 | apply z8 | apply s7 | apply s8 | apply w4 | apply z9 | apply w5)) | (apply v8; exact rfl; exact tT_) | (apply v9; exact rfl; exact fF_) | ((first | apply w6 | apply z6 | apply z0 | apply p5 | apply y0 | apply z7)) | ((apply p6 (id := 6) []); kernel_rfl; kernel_rfl) | (apply za6; try simp only [za9, List.cons_append, List.nil_append]) | ((first | apply i9 | apply n9 | apply m5); exact rfl; exact rfl) | ((first | apply ze6 | apply zh4 | apply zi4); exact rfl; exact rfl; exact rfl) | (apply zm8; exact rfl; exact tT_; exact rfl; exact rfl) | (apply zv7; exact rfl; exact gG_; exact rfl))
        all_goals first
          | (exfalso; omega)
          | skip
        all_goals
          refine o0 1 (by omega) (by omega) ?_ ?_
          · simp only [Nat.one_ne_zero, if_false]; exact fS_
          · exact hS_
    obtain rfl : i = 1 := by omega
    repeat' (first | (apply v9; exact rfl; exact dF_) | ((first | apply w9 | apply y8 | apply x8); exact rfl; exact rfl) | ((first | apply p3 | apply o8 | apply l0); exact rfl; exact rfl; exact rfl) | ((first | apply s9 | apply x9 | apply z8 | apply s7 | apply s8 | apply w4 | apply z9 | apply w5)) | ((first | apply w6 | apply z6 | apply z0 | apply p5 | apply y0 | apply z7)))
    apply p8; apply zb0 Try.results65; exact rV_; intro w' hw
    exact ⟨rfl, hw.below (by simp)⟩
end Go.Proofs.Ytdahckhlfldkkaa
namespace Go.Proofs.Ytdahckhlfldkkaa
open Go Go.Sx Go.RowKit
section
variable {P : Program} {n : Nat} {D : List Deferred} {w0 : World} {F : List (Nat × Value)} {L L0 : List Ent} {Q : Exit → Act → World → Prop} {lq : List Oper} {fq mq : Nat} {r : Option Nat} {ops : Array Oper}
variable {d : Tmp} {ty : TypeId} {pos : String} {af : Array Edge} {rest : List Oper}
theorem zk1 {f : FuncId} {fn : Func} [TC P f fn] {x : Operand} {caps : Array Value} {xs : List Operand} {vs : List Value} {ats : Array TypeId} {v : Value} (hx : ev F x = some (.func (.func f) #[] caps)) (hd : Nat.ble (d + 1) n = true) (hxs : Evs F xs vs)
    (hc : ∀ w, Rep w0 w L → Calls P f (vs.toArray ++ caps) w fun e w' => e = .returned v ∧ Below w.heap.size w w')
    (h : St n D w0 ((d, v) :: F) L (WL r P ops Q rest)) : St n D w0 F L (WL r P ops Q (⟨some d, .call ⟨.value x, xs.toArray, ats⟩, ty, pos, af, none⟩ :: rest)) :=
  ya0 (x := x) (caps := caps) (Φ := fun w u w' => u = v ∧ Below w.heap.size w w') hx hd hxs (fun w hw => by
    refine (hc w hw).mono ?_
    rintro e w' ⟨rfl, hB⟩
    exact ⟨v, rfl, rfl, hB⟩) (fun w u hw a w' hΦ ha => by obtain ⟨rfl, hB⟩ := hΦ; exact h a w' ha (hw.grow hB))
theorem yJ2 {x y : Operand} {k : IntKind} {m l v : Int} {ats : Array TypeId} (hx : ev F x = some (.int k m)) (hy : ev F y = some (.int k l)) (e : (if l < m then l else m) = v) (hd : Nat.ble (d + 1) n = true)
    (h : St n D w0 ((d, .int k v) :: F) L (WL r P ops Q rest)) : St n D w0 F L (WL r P ops Q (⟨some d, .call ⟨.builtin .min, #[x, y], ats⟩, ty, pos, af, none⟩ :: rest)) := zn6 hx hy hd (by rw [e]; exact h)
theorem yx3 {x y : Operand} {k : IntKind} {m l v : Int} {ats : Array TypeId} (hx : ev F x = some (.int k m)) (hy : ev F y = some (.int k l)) (e : (if m < l then l else m) = v) (hd : Nat.ble (d + 1) n = true)
    (h : St n D w0 ((d, .int k v) :: F) L (WL r P ops Q rest)) : St n D w0 F L (WL r P ops Q (⟨some d, .call ⟨.builtin .max, #[x, y], ats⟩, ty, pos, af, none⟩ :: rest)) := zp4 hx hy hd (by rw [e]; exact h)
end
section
variable {P : Program} {n : Nat} {D : List Deferred} {w0 : World} {F : List (Nat × Value)} {L L' : List Ent} {J J1 : Made} {Φ : zf2} {X : Act → World → Prop} {kq : Nat} {ops : Array Oper}
variable {d : Tmp} {ty : TypeId} {pos : String} {af : Array Edge} {rest : List Oper}
theorem zR6 {x y : Operand} {k : IntKind} {m l v : Int} {ats : Array TypeId} (hx : ev F x = some (.int k m)) (hΦ : Φ kq = none) (hJ : SubJ ((anc ops).getD kq 0) J1 J) (hy : ev F y = some (.int k l)) (e : (if l < m then l else m) = v) (hd : Nat.ble (d + 1) n = true)
    (h : St n D w0 ((d, .int k v) :: F) L (WQ P ops w0 L Φ X (kq + 1) J rest)) : St n D w0 F L (WQ P ops w0 L Φ X kq J (⟨some d, .call ⟨.builtin .min, #[x, y], ats⟩, ty, pos, af, none⟩ :: rest)) := yJ6 hx hΦ hJ hy hd (by rw [e]; exact h)
theorem yJ5 {x y : Operand} {k : IntKind} {m l v : Int} {ats : Array TypeId} (hx : ev F x = some (.int k m)) (hΦ : Φ kq = none) (hJ : SubJ ((anc ops).getD kq 0) J1 J) (hy : ev F y = some (.int k l)) (e : (if m < l then l else m) = v) (hd : Nat.ble (d + 1) n = true)
    (h : St n D w0 ((d, .int k v) :: F) L (WQ P ops w0 L Φ X (kq + 1) J rest)) : St n D w0 F L (WQ P ops w0 L Φ X kq J (⟨some d, .call ⟨.builtin .max, #[x, y], ats⟩, ty, pos, af, none⟩ :: rest)) := yJ4 hx hΦ hJ hy hd (by rw [e]; exact h)
end
attribute [local irreducible] WL WC WQ WR WB WF QB St Exit.then Exit.inBlock Exit.noGoto bodyPost roundPost zc1 YR RG BM Calls B zc7 ze3
theorem zt9 {j : Plt.Job} {m left z : Int} {b2 b8 br bj oj cj cr : Nat} {sr : List Value} (hz : (if j.rel > m ∨ left = 0 then -1 else 0) = z) (w : World) (h2 : w.heap[b2]? = some (Ce [.slice (some ⟨bj, oj, none⟩) 1 cj] 168)) (h8 : w.heap[b8]? = some (Ce [.slice (some ⟨br, 0, none⟩) 1 cr] 44)) (hr : w.heap[br]? = some (Ce ([left].flatMap encI ++ sr) 3)) (h : SV w 4 zs7 (.slice (some ⟨bj, oj, none⟩) 1 cj) [j]) :
    Calls Try.prog 65 #[.int .i64 m, ptr b2, ptr b8] w fun e w' => e = .returned (.int .i64 z) ∧ Below w.heap.size w w' := by
  subst hz; exact zU3 w h2 h8 hr h
theorem ys2 {b : Nat} (x : Int) : OW 3 1 encI (.slice (some ⟨b, 0, none⟩) (([x] : List Int).take 0).length 1) (([x] : List Int).take 0) [⟨b, Ce (([] : List Int).flatMap encI ++ [.int .i64 0]) 3, true⟩] :=
  OW.row (E := 3) (k := 1) (enc := encI) (b := b) (cap := 1) (xs := []) (s := [.int .i64 0]) (by simp) (by simp)
set_option maxHeartbeats 8000000 in
set_option maxRecDepth 100000 in
theorem yg8 {jv sv : Value} {j : Plt.Job} {shifts : List Plt.Sh} (hal : Plt.zb7 [j] shifts = (0, 0)) (w : World) (hj : SV w 4 zs7 jv [j]) (hs : SV w 2 zs8 sv shifts) :
    Calls Try.prog 55 #[jv, sv] w fun e w' => ∃ v N, e = .returned v ∧ (∃ a c, v = .tuple #[.slice a (Plt.g9 j.rel j.mins shifts).length c, .int .i64 0] ∧ OW 76 3 zj8 (.slice a (Plt.g9 j.rel j.mins shifts).length c) (Plt.zd6 j.id (Plt.g9 j.rel j.mins shifts)) N ∧ ∀ x ∈ N, x.own = true) ∧ Rep w w' N ∧ ∀ x ∈ N, x.own = true := by
  obtain ⟨hjok, hsl, hsr⟩ := Plt.zy4 hal
  unfold Plt.Job.ok at hjok
  obtain ⟨⟨hjid, hjm⟩, ⟨hjr0, hjr⟩, hjd⟩ := hjok
  obtain ⟨aj, cj, rfl, hcj, hopj⟩ := hj.open
  obtain ⟨bj, oj, ccj, ej, fzj, rfl, hkj, hptj⟩ := hopj (by simp)
  have gJ : ∀ k u, ([.int .i64 j.id, .int .i64 j.rel, .int .i64 j.due, .int .i64 j.mins] : List Value)[k]? = some u → ccj[oj + 0 * 4 + k]? = some u := hptj.get (m := 0) rfl
  have gJ0 : ccj[oj + 0 * 4]? = some (.int .i64 j.id) := gJ 0 _ rfl
  simp only [List.length_cons, List.length_nil] at hj hcj ⊢
  obtain ⟨as_, cs_, rfl, hcs, hops⟩ := hs.open
  refine za8 Try.func55 rfl Try.ntmps55 rfl (Rep.start w) ?_
  repeat' (first | (apply v9; exact rfl; exact dF_) | ((first | ((apply t8 (f := 63)); exact rfl) | ((apply t9 (f := 63)); exact rfl; kernel_rfl; exact rfl; exact sJ_)); exact eV_; exact (fun w hw => zF3 hal w (hj.keep hw (by exact aO_)) (hs.keep hw (by exact aO_)))) | ((first | apply w9 | apply y8 | apply x8); exact rfl; exact rfl) | (apply w7; first | refine u9 (h := ?_) | refine y9 (h := ?_) | refine w8 (h := ?_) | refine q6 (h := ?_) | refine q0 (h := ?_)) | ((first | apply p3 | apply d9 | apply l0 | apply l8 | apply p0 | apply zn6); exact rfl; exact rfl; exact rfl) | (apply o7; exact rfl; intro _) | (apply zc5; exact rfl; exact rfl; exact rfl; intro _) | (apply q7; first | refine q8 (h := ?_) | refine q9 (h := ?_)) | (apply o9; infer_instance; exact rfl; exact rfl) | (apply zE6; refine zJ1 (h := fun _ => ?_)) | ((first | apply s9 | apply x9 | apply z8 | apply s7 | apply s8 | apply w4 | apply zo2 | apply zo1 | apply z9 | apply w5)) | ((first | apply w6 | apply z6 | apply z0 | apply p5 | apply y0 | apply z7 | apply zk9)))
  rename_i b2 bx b8
  apply j9 (σ := Nat × (Option Addr × Nat) × List Ent) (Fs := fun t => [(34, .int .i64 t.1), (33, .int .i64 1), (32, (.slice (some ⟨bj, oj, none⟩) 1 cj)), (8, ptr b8), (2, ptr b2), (1, .slice as_ shifts.length cs_)])
    (Ls := fun t => ⟨b8, Ce [.slice t.2.1.1 (([j.mins] : List Int).take t.1).length t.2.1.2] 44, true⟩ :: (t.2.2 ++ (⟨b2, Ce [(.slice (some ⟨bj, oj, none⟩) 1 cj)] 168, true⟩ :: [])))
    (I := fun t => t.1 ≤ 1 ∧ OW 3 1 encI (.slice t.2.1.1 (([j.mins] : List Int).take t.1).length t.2.1.2) (([j.mins] : List Int).take t.1) t.2.2) (μ := fun t => 1 - t.1) (s0 := (0, (some ⟨bx, 0, none⟩, 1), [⟨bx, Ce (([] : List Int).flatMap encI ++ [.int .i64 0]) 3, true⟩]))
  · exact ⟨Nat.zero_le _, ys2 _⟩
  · exact fS_
  · exact hS_
  rintro ⟨i, ⟨ar, cr⟩, NR⟩ ⟨hi, hO⟩
  dsimp only at hi hO ⊢
  have oR := hO.own
  by_cases hlt : i < 1
  · obtain rfl : i = 0 := by omega
    have e1 : ([j.mins] : List Int).take 1 = ([j.mins] : List Int).take 0 ++ [j.mins] := rfl
    have hRl : (([j.mins] : List Int).take 0).length ≤ 1 := by simp
    generalize ([j.mins] : List Int).take 0 = R at hO e1 hRl ⊢
    as_aux_lemma =>
      repeat' (first | (apply v8; exact rfl; exact dT_) | ((first | apply m8 (m := 0) | apply zc3 (m := 0)); infer_instance; infer_instance; exact rfl; exact rfl; omega; exact rfl; omega) | (apply zc4 (enc := encI) (ys := [(j.mins)]); infer_instance; infer_instance; infer_instance; exact rfl; exact j8; exact zg4; exact rfl; exact rfl; exact rfl; assumption; exact rL_; (exact fun w hw => SV.lit [(j.mins)] j8 hw (by exact aT_) rfl rfl (by decide)); (first | decide | (constructor <;> (try simp only [List.length_cons, List.length_nil]) <;> omega) | (constructor <;> simp <;> omega)); intro a_ cp_ N_ hO_; have oN_ := hO_.own; (try simp only [List.nil_append, List.append_assoc] at hO_); (try simp only [List.append_eq, List.append_assoc, List.cons_append, List.nil_append])) | ((first | apply w9 | apply y8 | apply x8); exact rfl; exact rfl) | (apply w7; first | refine u9 (h := ?_) | refine y9 (h := ?_) | refine w8 (h := ?_) | refine q6 (h := ?_) | refine q0 (h := ?_)) | ((first | apply p3 | apply d9 | apply l0 | apply l8 | apply p0 | apply zn6); exact rfl; exact rfl; exact rfl) | ((first | apply j0 | apply ze5); exact rfl; exact rfl; exact rfl; (constructor <;> omega)) | (apply o7; exact rfl; intro _) | (apply q7; first | refine q8 (h := ?_) | refine q9 (h := ?_)) | (apply m9; refine l9 (h := fun _ => ?_)) | ((first | apply s9 | apply x9 | apply z8 | apply s7 | apply s8 | apply w4 | apply zo2 | apply zo1 | apply z9 | apply w5)) | ((first | apply w6 | apply z6 | apply z0 | apply p5 | apply y0 | apply z7 | apply zk9)))
      refine o0 (1, (a_, cp_), N_) ⟨by dsimp only; omega, by dsimp only; rw [e1]; exact hO_⟩ (by dsimp only; omega) ?_ ?_
      · exact fS_
      · dsimp only; rw [e1]; exact hS_
  obtain rfl : i = 1 := by omega
  rw [show ([j.mins] : List Int).take 1 = [j.mins] from rfl] at hO ⊢
  obtain ⟨br, sr, rfl, rfl⟩ := OW.some hO (by simp)
  simp only [List.length_cons, List.length_nil] at hO ⊢
  repeat' (first | (apply v9; exact rfl; exact dF_) | ((first | apply w9 | apply y8 | apply x8); exact rfl; exact rfl) | ((first | apply p3 | apply d9 | apply l0 | apply l8 | apply p0 | apply zn6); exact rfl; exact rfl; exact rfl) | (apply o9; infer_instance; exact rfl; exact rfl) | (apply zk0; refine zA0 (h := ?_)) | ((first | apply s9 | apply x9 | apply z8 | apply s7 | apply s8 | apply w4 | apply zo2 | apply zo1 | apply z9 | apply w5)) | ((first | apply w6 | apply z6 | apply z0 | apply p5 | apply y0 | apply z7 | apply zk9)))
  apply j9 (σ := Nat × Int × List (Int × Int) × (Option Addr × Nat) × List Ent) (Fs := fun t => [(47, .int .i64 t.1), (46, .int .i64 shifts.length), (45, .slice as_ shifts.length cs_), (12, .slice t.2.2.2.1.1 (Plt.zd6 j.id t.2.2.1).length t.2.2.2.1.2), (11, .func (.func 65) #[] #[ptr b2, ptr b8]), (8, ptr b8), (2, ptr b2)])
    (Ls := fun t => ⟨b8, Ce [.slice (some ⟨br, 0, none⟩) 1 cr] 44, true⟩ :: ⟨br, Ce ([t.2.1].flatMap encI ++ sr) 3, true⟩ :: ⟨b2, Ce [(.slice (some ⟨bj, oj, none⟩) 1 cj)] 168, true⟩ :: (t.2.2.2.2 ++ []))
    (I := fun t => (t.1 ≤ shifts.length ∧ t.2.2.1.length ≤ t.1) ∧ (0 ≤ t.2.1 ∧ t.2.1 ≤ 100000) ∧ Plt.g9 j.rel j.mins shifts = t.2.2.1 ++ Plt.g9 j.rel t.2.1 (shifts.drop t.1) ∧ OW 76 3 zj8 (.slice t.2.2.2.1.1 (Plt.zd6 j.id t.2.2.1).length t.2.2.2.1.2) (Plt.zd6 j.id t.2.2.1) t.2.2.2.2)
    (μ := fun t => shifts.length - t.1) (s0 := (0, j.mins, [], (none, 0), []))
  · exact ⟨⟨Nat.zero_le _, Nat.zero_le _⟩, by dsimp only; omega, rfl, OW.nil⟩
  · exact fS_
  · exact hS_
  rintro ⟨i, left0, plan0, ⟨ap, cp⟩, NP⟩ ⟨⟨hi, hpl⟩, hl0, hsf, hP⟩
  dsimp only at hi hpl hl0 hsf hP ⊢
  have oP := hP.own
  have hsll := Plt.zj6 j.id plan0
  by_cases hlt : i < shifts.length
  · obtain ⟨⟨f, t⟩, hx⟩ : ∃ s, shifts[i]? = some s := ⟨_, List.getElem?_eq_getElem hlt⟩
    obtain ⟨bs, os, ccs, es, fzs, rfl, hks, hpts⟩ := hops (by omega)
    have g1 : ∀ k u, ([.int .i64 f, .int .i64 t] : List Value)[k]? = some u → ccs[os + i * 2 + k]? = some u := hpts.get hx
    have hft := hsr _ (List.mem_of_getElem? hx)
    dsimp only at hft
    rw [drop_at hx] at hsf
    repeat' (first | (apply v8; exact rfl; exact dT_) | ((first | apply w9 | apply y8 | apply x8); exact rfl; exact rfl) | (apply w7; first | refine u9 (h := ?_) | refine y9 (h := ?_) | refine w8 (h := ?_) | refine q6 (h := ?_) | refine q0 (h := ?_)) | ((first | apply p3 | apply d9 | apply l0 | apply l8 | apply p0 | apply zn6); exact rfl; exact rfl; exact rfl) | (apply o7; exact rfl; intro _) | (apply q7; first | refine q8 (h := ?_) | refine q9 (h := ?_)) | (apply o9; infer_instance; exact rfl; exact rfl) | (apply m8; infer_instance; infer_instance; exact rfl; exact rfl; (first | exact rfl | omega); exact rfl; (first | assumption | omega | decide)) | ((first | apply s9 | apply x9 | apply z8 | apply s7 | apply s8 | apply w4 | apply zo2 | apply zo1 | apply z9 | apply w5)) | ((first | apply w6 | apply z6 | apply z0 | apply p5 | apply y0 | apply z7 | apply zk9)))
    rename_i b14
    apply j9 (σ := Bool × Int × Int × List (Int × Int) × (Option Addr × Nat) × List Ent)
      (Fs := fun q => [(16, .int .i64 q.2.1), (15, .int .i64 (Plt.zd6 j.id plan0).length), (14, ptr b14), (47, .int .i64 i), (46, .int .i64 shifts.length), (45, .slice (some ⟨bs, os, none⟩) shifts.length cs_), (12, .slice q.2.2.2.2.1.1 (Plt.zd6 j.id q.2.2.2.1).length q.2.2.2.2.1.2), (11, .func (.func 65) #[] #[ptr b2, ptr b8]), (8, ptr b8), (2, ptr b2)])
      (Ls := fun q => ⟨b14, Ce [.int .i64 f, .int .i64 t] 81, true⟩ :: ⟨b8, Ce [.slice (some ⟨br, 0, none⟩) 1 cr] 44, true⟩ :: ⟨br, Ce ([q.2.2.1].flatMap encI ++ sr) 3, true⟩ :: ⟨b2, Ce [(.slice (some ⟨bj, oj, none⟩) 1 cj)] 168, true⟩ :: (q.2.2.2.2.2 ++ []))
      (I := fun q => (q.1 = false → (q.2.2.2.1 = plan0 ∧ q.2.2.1 = left0) ∧ (q.2.1 < t ∧ f ≤ q.2.1) ∧ max q.2.1 j.rel = max f j.rel) ∧ (q.1 = true → (left0 ≠ 0 ∧ max f j.rel < t) ∧ q.2.1 = min t (max f j.rel + left0) ∧ q.2.2.2.1 = plan0 ++ [(max f j.rel, q.2.1)] ∧ q.2.2.1 = left0 - (q.2.1 - max f j.rel)) ∧ OW 76 3 zj8 (.slice q.2.2.2.2.1.1 (Plt.zd6 j.id q.2.2.2.1).length q.2.2.2.2.1.2) (Plt.zd6 j.id q.2.2.2.1) q.2.2.2.2.2)
      (μ := fun q => (t - q.2.1).toNat) (s0 := (false, f, left0, plan0, (ap, cp), NP))
    · exact ⟨fun _ => ⟨⟨rfl, rfl⟩, by dsimp only; omega, rfl⟩, (fun h => by cases h), hP⟩
    · exact fS_
    · exact hS_
    rintro ⟨ph, m, left, plan, ⟨aq, cq⟩, NQ⟩ ⟨h0, h1, hQ⟩
    dsimp only at h0 h1 hQ ⊢
    have oQ := hQ.own
    have gL : (([left].flatMap encI ++ sr) : List Value).toArray[0 + 0 * 1]? = some (.int .i64 left) := by simp [encI]
    have gL0 : (([left].flatMap encI ++ sr) : List Value).toArray[0]? = some (.int .i64 left) := by simp [encI]
    cases ph with
    | true =>
      obtain ⟨⟨hn0, hmt⟩, hm, hpe, hle⟩ := h1 rfl
      clear h0 h1
      have hskip : ¬ (left0 = 0 ∨ t ≤ max f j.rel) := by omega
      rw [Plt.yg7 hskip] at hsf
      dsimp only at hsf
      rw [← hm, ← hle] at hsf
      have hsf2 : Plt.g9 j.rel j.mins shifts = plan ++ Plt.g9 j.rel left (shifts.drop (i + 1)) := by rw [hsf, hpe, List.append_assoc]; rfl
      have hpl2 : plan.length ≤ i + 1 := by rw [hpe]; simp; omega
      by_cases hmt2 : m < t
      · have hl00 : left = 0 := by omega
        have hrr : (1051898400 : Int) = if j.rel > m then j.rel else 1051898400 := by rw [if_neg (by omega)]
        have hrun : (if j.rel > m ∨ left = 0 then (-1 : Int) else 0) = -1 := if_pos (.inr hl00)
        obtain ⟨u, hu⟩ : ∃ u, t = u := ⟨_, rfl⟩
        have hmin1 : (if (1051898400 : Int) < t then 1051898400 else t) = u := by rw [if_neg (by omega), hu]
        have hmin2 := hmin1
        as_aux_lemma =>
          repeat' (first | (apply v8; exact rfl; exact dT_) | ((apply zR6 (v := u)); exact rfl; exact rfl; exact sJ_; exact rfl; (first | exact hmin1 | exact hmin2); exact rfl) | ((first | ((apply t8 (f := 67)); exact rfl) | ((apply t9 (f := 67)); exact rfl; kernel_rfl; exact rfl; exact sJ_)); exact eV_; exact (fun w hw => zm9 hrr hjr w (hj.keep hw (by exact aO_)))) | ((apply zk1 (f := 65)); exact rfl; exact rfl; exact eV_; (intro w hw; show Calls Try.prog 65 #[.int .i64 m, ptr b2, ptr b8] w _; exact zt9 hrun w (hw.at (by exact aT_)) (hw.at (by exact aT_)) (hw.at (by exact aT_)) (hj.keep hw (by exact aO_)))) | ((first | apply w9 | apply y8 | apply x8); exact rfl; exact rfl) | (apply w7; first | refine u9 (h := ?_) | refine y9 (h := ?_) | refine w8 (h := ?_) | refine q6 (h := ?_) | refine q0 (h := ?_)) | ((first | apply p3 | apply d9 | apply l0 | apply l8 | apply p0 | apply zn6); exact rfl; exact rfl; exact rfl) | ((first | apply j0 | apply ze5); exact rfl; exact rfl; exact rfl; (constructor <;> omega)) | ((first | apply s9 | apply x9 | apply z8 | apply s7 | apply s8 | apply w4 | apply zo2 | apply zo1 | apply z9 | apply w5)) | ((first | apply w6 | apply z6 | apply z0 | apply p5 | apply y0 | apply z7 | apply zk9)) | (apply zs6; exact rfl) | ((apply p6 (id := 18) []); kernel_rfl; kernel_rfl) | (apply za6; try simp only [za9, List.cons_append, List.nil_append]) | ((first | apply i9 | apply n9 | apply m5); exact rfl; exact rfl) | (apply m0; first | refine k8 (h := ?_) | refine p7 (h := ?_) | refine m6 (h := ?_) | refine d8 (h := ?_) | refine d7 (h := ?_)))
          refine o0 (i + 1, left, plan, (aq, cq), NQ) ⟨⟨by dsimp only; omega, hpl2⟩, by dsimp only; omega, hsf2, hQ⟩ (by dsimp only; omega) ?_ ?_
          · exact fS_
          · exact hS_
      · as_aux_lemma =>
          repeat' (first | (apply v9; exact rfl; exact dF_) | ((first | apply w9 | apply y8 | apply x8); exact rfl; exact rfl) | (apply w7; first | refine u9 (h := ?_) | refine y9 (h := ?_) | refine w8 (h := ?_) | refine q6 (h := ?_) | refine q0 (h := ?_)) | ((first | apply p3 | apply d9 | apply l0 | apply l8 | apply p0 | apply zn6); exact rfl; exact rfl; exact rfl) | ((first | apply j0 | apply ze5); exact rfl; exact rfl; exact rfl; (constructor <;> omega)) | ((first | apply s9 | apply x9 | apply z8 | apply s7 | apply s8 | apply w4 | apply zo2 | apply zo1 | apply z9 | apply w5)) | ((first | apply w6 | apply z6 | apply z0 | apply p5 | apply y0 | apply z7 | apply zk9)))
          refine o0 (i + 1, left, plan, (aq, cq), NQ) ⟨⟨by dsimp only; omega, hpl2⟩, by dsimp only; omega, hsf2, hQ⟩ (by dsimp only; omega) ?_ ?_
          · exact fS_
          · exact hS_
    | false =>
      obtain ⟨⟨hpe, hle⟩, ⟨hmt, hfm⟩, hmx⟩ := h0 rfl
      clear h0 h1
      subst hpe hle
      have hnext : (left = 0 ∨ t ≤ max f j.rel) → Plt.g9 j.rel j.mins shifts = plan ++ Plt.g9 j.rel left (shifts.drop (i + 1)) := fun h => by rw [hsf, Plt.yg5 h]
      by_cases hrm : j.rel > m
      · have hrr : j.rel = if j.rel > m then j.rel else 1051898400 := by rw [if_pos hrm]
        have hrun : (if j.rel > m ∨ left = 0 then (-1 : Int) else 0) = -1 := if_pos (.inl hrm)
        obtain ⟨u, hu⟩ : ∃ u, (if j.rel < t then j.rel else t) = u := ⟨_, rfl⟩
        have hmin1 := hu
        have hmin2 := hu
        by_cases hrt : j.rel < t
        · rw [if_pos hrt] at hu
          as_aux_lemma =>
            repeat' (first | (apply v8; exact rfl; exact dT_) | (apply v9; exact rfl; exact dF_) | ((apply zR6 (v := u)); exact rfl; exact rfl; exact sJ_; exact rfl; (first | exact hmin1 | exact hmin2); exact rfl) | ((first | ((apply t8 (f := 67)); exact rfl) | ((apply t9 (f := 67)); exact rfl; kernel_rfl; exact rfl; exact sJ_)); exact eV_; exact (fun w hw => zm9 hrr hjr w (hj.keep hw (by exact aO_)))) | ((apply zk1 (f := 65)); exact rfl; exact rfl; exact eV_; (intro w hw; show Calls Try.prog 65 #[.int .i64 m, ptr b2, ptr b8] w _; exact zt9 hrun w (hw.at (by exact aT_)) (hw.at (by exact aT_)) (hw.at (by exact aT_)) (hj.keep hw (by exact aO_)))) | ((first | apply w9 | apply y8 | apply x8); exact rfl; exact rfl) | (apply w7; first | refine u9 (h := ?_) | refine y9 (h := ?_) | refine w8 (h := ?_) | refine q6 (h := ?_) | refine q0 (h := ?_)) | ((first | apply p3 | apply d9 | apply l0 | apply l8 | apply p0 | apply zn6); exact rfl; exact rfl; exact rfl) | ((first | apply s9 | apply x9 | apply z8 | apply s7 | apply s8 | apply w4 | apply zo2 | apply zo1 | apply z9 | apply w5)) | ((first | apply w6 | apply z6 | apply z0 | apply p5 | apply y0 | apply z7 | apply zk9)) | ((apply p6 (id := 18) []); kernel_rfl; kernel_rfl) | (apply za6; try simp only [za9, List.cons_append, List.nil_append]) | ((first | apply i9 | apply n9 | apply m5); exact rfl; exact rfl) | (apply m0; first | refine k8 (h := ?_) | refine p7 (h := ?_) | refine m6 (h := ?_) | refine d8 (h := ?_) | refine d7 (h := ?_)))
            refine o0 (false, u, left, plan, (aq, cq), NQ) ⟨fun _ => ⟨⟨rfl, rfl⟩, by dsimp only; omega, by dsimp only; omega⟩, (fun h => by cases h), hQ⟩ (by dsimp only; omega) ?_ ?_
            · exact fS_
            · exact hS_
        · rw [if_neg hrt] at hu
          as_aux_lemma =>
            repeat' (first | (apply v8; exact rfl; exact dT_) | ((apply zR6 (v := u)); exact rfl; exact rfl; exact sJ_; exact rfl; (first | exact hmin1 | exact hmin2); exact rfl) | ((first | ((apply t8 (f := 67)); exact rfl) | ((apply t9 (f := 67)); exact rfl; kernel_rfl; exact rfl; exact sJ_)); exact eV_; exact (fun w hw => zm9 hrr hjr w (hj.keep hw (by exact aO_)))) | ((apply zk1 (f := 65)); exact rfl; exact rfl; exact eV_; (intro w hw; show Calls Try.prog 65 #[.int .i64 m, ptr b2, ptr b8] w _; exact zt9 hrun w (hw.at (by exact aT_)) (hw.at (by exact aT_)) (hw.at (by exact aT_)) (hj.keep hw (by exact aO_)))) | ((first | apply w9 | apply y8 | apply x8); exact rfl; exact rfl) | (apply w7; first | refine u9 (h := ?_) | refine y9 (h := ?_) | refine w8 (h := ?_) | refine q6 (h := ?_) | refine q0 (h := ?_)) | ((first | apply p3 | apply d9 | apply l0 | apply l8 | apply p0 | apply zn6); exact rfl; exact rfl; exact rfl) | ((first | apply j0 | apply ze5); exact rfl; exact rfl; exact rfl; (constructor <;> omega)) | ((first | apply s9 | apply x9 | apply z8 | apply s7 | apply s8 | apply w4 | apply zo2 | apply zo1 | apply z9 | apply w5)) | ((first | apply w6 | apply z6 | apply z0 | apply p5 | apply y0 | apply z7 | apply zk9)) | (apply zs6; exact rfl) | ((apply p6 (id := 18) []); kernel_rfl; kernel_rfl) | (apply za6; try simp only [za9, List.cons_append, List.nil_append]) | ((first | apply i9 | apply n9 | apply m5); exact rfl; exact rfl) | (apply m0; first | refine k8 (h := ?_) | refine p7 (h := ?_) | refine m6 (h := ?_) | refine d8 (h := ?_) | refine d7 (h := ?_)))
            refine o0 (i + 1, left, plan, (aq, cq), NQ) ⟨⟨by dsimp only; omega, by dsimp only; omega⟩, by dsimp only; omega, hnext (.inr (by omega)), hQ⟩ (by dsimp only; omega) ?_ ?_
            · exact fS_
            · exact hS_
      have hrr : (1051898400 : Int) = if j.rel > m then j.rel else 1051898400 := by rw [if_neg hrm]
      by_cases hl00 : left = 0
      · have hrun : (if j.rel > m ∨ left = 0 then (-1 : Int) else 0) = -1 := if_pos (.inr hl00)
        obtain ⟨u, hu⟩ : ∃ u, t = u := ⟨_, rfl⟩
        have hmin1 : (if (1051898400 : Int) < t then 1051898400 else t) = u := by rw [if_neg (by omega), hu]
        have hmin2 := hmin1
        as_aux_lemma =>
          repeat' (first | (apply v8; exact rfl; exact dT_) | ((apply zR6 (v := u)); exact rfl; exact rfl; exact sJ_; exact rfl; (first | exact hmin1 | exact hmin2); exact rfl) | ((first | ((apply t8 (f := 67)); exact rfl) | ((apply t9 (f := 67)); exact rfl; kernel_rfl; exact rfl; exact sJ_)); exact eV_; exact (fun w hw => zm9 hrr hjr w (hj.keep hw (by exact aO_)))) | ((apply zk1 (f := 65)); exact rfl; exact rfl; exact eV_; (intro w hw; show Calls Try.prog 65 #[.int .i64 m, ptr b2, ptr b8] w _; exact zt9 hrun w (hw.at (by exact aT_)) (hw.at (by exact aT_)) (hw.at (by exact aT_)) (hj.keep hw (by exact aO_)))) | ((first | apply w9 | apply y8 | apply x8); exact rfl; exact rfl) | (apply w7; first | refine u9 (h := ?_) | refine y9 (h := ?_) | refine w8 (h := ?_) | refine q6 (h := ?_) | refine q0 (h := ?_)) | ((first | apply p3 | apply d9 | apply l0 | apply l8 | apply p0 | apply zn6); exact rfl; exact rfl; exact rfl) | ((first | apply j0 | apply ze5); exact rfl; exact rfl; exact rfl; (constructor <;> omega)) | ((first | apply s9 | apply x9 | apply z8 | apply s7 | apply s8 | apply w4 | apply zo2 | apply zo1 | apply z9 | apply w5)) | ((first | apply w6 | apply z6 | apply z0 | apply p5 | apply y0 | apply z7 | apply zk9)) | (apply zs6; exact rfl) | ((apply p6 (id := 18) []); kernel_rfl; kernel_rfl) | (apply za6; try simp only [za9, List.cons_append, List.nil_append]) | ((first | apply i9 | apply n9 | apply m5); exact rfl; exact rfl) | (apply m0; first | refine k8 (h := ?_) | refine p7 (h := ?_) | refine m6 (h := ?_) | refine d8 (h := ?_) | refine d7 (h := ?_)))
          refine o0 (i + 1, left, plan, (aq, cq), NQ) ⟨⟨by dsimp only; omega, by dsimp only; omega⟩, by dsimp only; omega, hnext (.inl hl00), hQ⟩ (by dsimp only; omega) ?_ ?_
          · exact fS_
          · exact hS_
      have hrun : (if j.rel > m ∨ left = 0 then (-1 : Int) else 0) = 0 := if_neg (by omega)
      have hmin0 : (if (1051898400 : Int) < t then 1051898400 else t) = t := if_neg (by omega)
      obtain ⟨u, hu⟩ : ∃ u, (if m + left < t then m + left else t) = u := ⟨_, rfl⟩
      have hub : m < u ∧ u ≤ t ∧ u ≤ m + left := by split at hu <;> omega
      have hum : u = min t (max f j.rel + left) := by split at hu <;> omega
      have hsn := Plt.zy0 j.id plan (m, u)
      dsimp only at hsn
      have hslb : (Plt.zd6 j.id plan).length ≤ 200 := by omega
      have hlast : ((Plt.zd6 j.id plan).length : Int) - 1 < (Plt.zd6 j.id plan).length := by omega
      generalize Plt.zd6 j.id plan = S3 at hQ hP hsn hslb hlast hsll ⊢
      as_aux_lemma =>
        repeat' (first | (apply v8; exact rfl; exact dT_) | (apply v9; exact rfl; exact dF_) | ((first | apply m8 (m := 0) | apply zc3 (m := 0)); infer_instance; infer_instance; exact rfl; exact rfl; omega; exact rfl; omega) | ((apply zR6 (v := t)); exact rfl; exact rfl; exact sJ_; exact rfl; exact hmin0; exact rfl) | ((apply yJ2 (v := u)); exact rfl; exact rfl; exact hu; exact rfl) | ((first | ((apply t8 (f := 67)); exact rfl) | ((apply t9 (f := 67)); exact rfl; kernel_rfl; exact rfl; exact sJ_)); exact eV_; exact (fun w hw => zm9 hrr hjr w (hj.keep hw (by exact aO_)))) | ((apply zk1 (f := 65)); exact rfl; exact rfl; exact eV_; (intro w hw; show Calls Try.prog 65 #[.int .i64 m, ptr b2, ptr b8] w _; exact zt9 hrun w (hw.at (by exact aT_)) (hw.at (by exact aT_)) (hw.at (by exact aT_)) (hj.keep hw (by exact aO_)))) | (apply zc4 (enc := zj8) (ys := [((j.id, m, u))]); infer_instance; infer_instance; infer_instance; exact rfl; exact ze9; exact zw7; exact rfl; exact rfl; exact rfl; assumption; exact rL_; (exact fun w hw => SV.lit [((j.id, m, u))] ze9 hw (by exact aT_) rfl rfl (by decide)); (first | decide | (constructor <;> (try simp only [List.length_cons, List.length_nil]) <;> omega) | (constructor <;> simp <;> omega)); intro a_ cp_ N_ hO_; have oN_ := hO_.own; (try simp only [List.nil_append, List.append_assoc] at hO_); (try simp only [List.append_eq, List.append_assoc, List.cons_append, List.nil_append])) | (apply zC0 (enc := encI) (k := 1) (m := 0) (o := 0) (xs := ([left])) (left - (u - m)) (show ([left] : List Int).set 0 (left - (u - m)) = [left - (u - m)] from rfl); infer_instance; exact rfl; exact rfl; exact aT_; exact (show ([left] : List Int)[0]? = some left from rfl); exact j8; omega; exact rfl; exact rfl; (intro u hu; simp at hu; first | (subst hu; rfl) | (rcases hu with rfl | rfl <;> rfl) | (rcases hu with rfl | rfl | rfl <;> rfl) | (rcases hu with rfl | rfl | rfl | rfl <;> rfl)); (first | decide | exact Nat.le_refl _ | (simp only [List.length_cons, List.length_nil]; decide)); exact rfl; exact uP_) | ((first | apply w9 | apply y8 | apply x8); exact rfl; exact rfl) | (apply za7; exact rfl; exact rfl) | (apply w7; first | refine u9 (h := ?_) | refine y9 (h := ?_) | refine w8 (h := ?_) | refine q6 (h := ?_) | refine q0 (h := ?_)) | ((first | apply p3 | apply d9 | apply l0 | apply l8 | apply p0 | apply zn6); exact rfl; exact rfl; exact rfl) | ((first | apply j0 | apply ze5); exact rfl; exact rfl; exact rfl; (constructor <;> omega)) | (apply g7; first | refine a8 (h := ?_)) | (apply o9; infer_instance; exact rfl; exact rfl) | (apply m9; refine l9 (h := fun _ => ?_)) | ((first | apply s9 | apply x9 | apply z8 | apply s7 | apply s8 | apply w4 | apply zo2 | apply zo1 | apply z9 | apply w5)) | (apply v9; exact rfl; exact fF_) | ((first | apply w6 | apply z6 | apply z0 | apply p5 | apply y0 | apply z7 | apply zk9)) | ((apply p6 (id := 18) []); kernel_rfl; kernel_rfl) | ((apply p6 (id := 26) []); kernel_rfl; kernel_rfl) | (apply za6; try simp only [za9, List.cons_append, List.nil_append]) | ((first | apply i9 | apply n9 | apply m5); exact rfl; exact rfl) | (apply m0; first | refine k8 (h := ?_) | refine p7 (h := ?_) | refine m6 (h := ?_) | refine d8 (h := ?_) | refine d7 (h := ?_)) | ((first | apply ze6 | apply zm1 | apply zi4 | apply zr1 | apply ze2); exact rfl; exact rfl; exact rfl) | (apply zh9; exact rfl; exact fF_; exact rfl; exact rfl) | (apply zv7; exact rfl; exact gG_; exact rfl))
        refine o0 (true, u, left - (u - m), plan ++ [(m, u)], (a_, cp_), N_) ⟨(fun h => by cases h), fun _ => ⟨by omega, hum, by rw [show max f j.rel = m from by omega], by (try dsimp only); omega⟩, by dsimp only; rw [hsn]; exact hO_⟩ (by dsimp only; omega) ?_ ?_
        · dsimp only; rw [hsn]; exact fS_
        · exact hS_
  obtain rfl : i = shifts.length := by omega
  rw [List.drop_length, Plt.g9, List.append_nil] at hsf
  rw [hsf]
  have e3 := Plt.zj6 j.id plan0
  rw [e3] at hP ⊢
  repeat' (first | (apply v9; exact rfl; exact dF_) | ((first | apply w9 | apply y8 | apply x8); exact rfl; exact rfl) | ((first | apply p3 | apply d9 | apply l0 | apply l8 | apply p0 | apply zn6); exact rfl; exact rfl; exact rfl) | ((first | apply s9 | apply x9 | apply z8 | apply s7 | apply s8 | apply w4 | apply zo2 | apply zo1 | apply z9 | apply w5)) | ((first | apply w6 | apply z6 | apply z0 | apply p5 | apply y0 | apply z7 | apply zk9)))
  apply p8; apply zf9 Try.results55; exact rV_; exact rV_; intro w' hw
  exact ⟨_, NP, rfl, ⟨ap, cp, rfl, hP, oP⟩, hw.sub (by exact hS_), oP⟩
end Go.Proofs.Ytdahckhlfldkkaa
namespace Go.Sx.Plt
theorem ys6 (l : List (Int × Int)) (s : Int × Int) : zb8 (l ++ [s]) = zb8 l + (s.2 - s.1) := by
  induction l with
  | nil => simp [zb8]
  | cons a r ih => rw [List.cons_append, zb8, zb8, ih]; omega
theorem zL4 {l : List (Int × Int)} {i : Nat} {s : Int × Int} (h : l[i]? = some s) : zb8 (l.take (i + 1)) = zb8 (l.take i) + (s.2 - s.1) := by
  rw [List.take_add_one, h, Option.toList_some, ys6]
theorem zM8 {l : List (Int × Int)} (h : ∀ s ∈ l, s.1 ≤ s.2) : 0 ≤ zb8 l := by
  induction l with
  | nil => simp [zb8]
  | cons a r ih =>
    have h1 := h a List.mem_cons_self
    have h2 := ih fun s hs => h s (List.mem_cons_of_mem _ hs)
    rw [zb8]; omega
theorem yo8 {l : List (Int × Int)} (h : ∀ s ∈ l, 0 ≤ s.1 ∧ s.1 ≤ s.2 ∧ s.2 ≤ 1051898399) : zb8 l ≤ 1051898399 * l.length := by
  induction l with
  | nil => simp [zb8]
  | cons a r ih =>
    have h1 := h a List.mem_cons_self
    have h2 := ih fun s hs => h s (List.mem_cons_of_mem _ hs)
    rw [zb8, List.length_cons]; omega
end Go.Sx.Plt
namespace Go.Proofs.Ytdahckhlfldkkaa
open Go Go.Sx Go.RowKit
attribute [local irreducible] WL WC WQ WR WB WF QB St Exit.then Exit.inBlock Exit.noGoto bodyPost roundPost zc1 YR RG BM Calls B zc7 ze3
theorem zF0 (a : Option Addr) (n c : Nat) (w : World) : Calls Try.prog 43 #[.slice a n c] w fun e w' => ∃ u N, e = .returned u ∧ (∃ b, u = .func (.func 58) #[] #[ptr b] ∧ N = [⟨b, Ce [.slice a n c] 68, true⟩]) ∧ Rep w w' N ∧ ∀ x ∈ N, x.own = true := by
  refine zd2 Try.func43 rfl Try.ntmps43 rfl (Rep.start w) ?_
  repeat' (first | (apply y8; exact rfl; exact rfl) | (apply zc5; exact rfl; exact rfl; exact rfl; intro _) | (apply zk0; refine zA0 (h := ?_)) | ((first | apply s9 | apply x9 | apply z8 | apply s7 | apply s8 | apply w4 | apply z9 | apply w5)) | ((first | apply w6 | apply z6 | apply z0 | apply p5 | apply y0 | apply z7)))
  apply p8; apply zb0 Try.results43; exact rV_; intro w' hw
  exact ⟨_, _, rfl, ⟨_, rfl, rfl⟩, hw.sub (by exact hS_), by simp⟩
theorem zI8 {id : Int} {l : List (Int × Int)} {i : Nat} {f t : Int} (h : l[i]? = some (f, t)) : (Plt.zd6 id l)[i]? = some (id, f, t) := by
  rw [Plt.zd6, List.getElem?_map, h]; rfl
set_option maxHeartbeats 4000000 in
theorem yc9 {v : Value} {id : Int} {l : List (Int × Int)} (hr : ∀ s ∈ l, 0 ≤ s.1 ∧ s.1 ≤ s.2 ∧ s.2 ≤ 1051898399) (hn : l.length ≤ 100000) (w : World) (h : SV w 3 zj8 v (Plt.zd6 id l)) :
    Calls Try.prog 56 #[v] w fun e w' => e = .returned (.int .i64 (Plt.zb8 l)) ∧ Below w.heap.size w w' := by
  obtain ⟨a0, cs, rfl, hcs, hop⟩ := h.open
  have hll := Plt.zj6 id l
  refine yq3 Try.func56 rfl Try.ntmps56 rfl (Rep.start w) ?_
  repeat' (first | ((first | ((apply f5 (f := 43)); exact rfl) | ((apply d6 (f := 43)); exact rfl; exact rfl; exact sJ_)); exact eV_; exact (fun w _ => zF0 _ _ _ w); rintro v N ⟨b1, rfl, rfl⟩ <;> (try simp only [List.cons_append, List.nil_append])) | ((first | apply w9 | apply y8); exact rfl; exact rfl) | (apply o7; exact rfl; intro _) | (apply q7; first | refine q8 (h := ?_) | refine q9 (h := ?_)) | ((first | apply s9 | apply x9 | apply z8 | apply s7 | apply s8 | apply w4 | apply z9 | apply w5)) | ((first | apply w6 | apply z6 | apply z0 | apply p5 | apply y0 | apply z7)))
  rename_i b3
  (apply zy7; exact rfl; infer_instance; exact rfl; exact Try.ntmps58; exact rfl; intro lp bd Z a1 ha1 hZ)
  repeat' (first | ((first | apply w9 | apply y8 | apply x8 | apply p4); exact rfl; exact rfl) | (apply w7; first | refine u9 (h := ?_) | refine y9 (h := ?_) | refine w8 (h := ?_) | refine q6 (h := ?_) | refine q0 (h := ?_)) | (apply o9; infer_instance; exact rfl; exact rfl) | ((first | apply s9 | apply x9 | apply z8 | apply s7 | apply s8 | apply w4 | apply z9 | apply w5)) | ((first | apply w6 | apply z6 | apply z0 | apply p5 | apply y0 | apply z7)))
  apply j9 (σ := Nat) (Fs := fun i => [(9, .int .i64 i), (8, .int .i64 (Plt.zd6 id l).length), (7, .slice a0 (Plt.zd6 id l).length cs), (3, .int .i64 (Plt.zb8 (l.take i))), (0, .func (.yield lp) #[] #[]), (1, ptr b1)])
    (Ls := fun i => [⟨lp, Z .ready none, true⟩, ⟨bd, .deferred (some []), true⟩, ⟨b1, Ce [.slice a0 (Plt.zd6 id l).length cs] 68, true⟩, ⟨b3, Ce [.int .i64 (Plt.zb8 (l.take i))] 3, true⟩])
    (I := fun i => i ≤ l.length) (μ := fun i => l.length - i) (s0 := 0)
  · exact Nat.zero_le _
  · exact fS_
  · exact hS_
  intro i hi
  have hi : i ≤ l.length := hi
  have hb := Plt.yo8 (l := l.take i) fun s hs => hr s (List.mem_of_mem_take hs)
  have hb0 := Plt.zM8 (l := l.take i) fun s hs => (hr s (List.mem_of_mem_take hs)).2.1
  have htl : ((l.take i).length : Int) ≤ 100000 := by rw [List.length_take]; omega
  by_cases hlt : i < l.length
  · obtain ⟨⟨f, t⟩, hx⟩ : ∃ s, l[i]? = some s := ⟨_, List.getElem?_eq_getElem hlt⟩
    have hft := hr _ (List.mem_of_getElem? hx)
    dsimp only at hft
    obtain ⟨bs, os, cc, e, fz, rfl, hk, hp⟩ := hop (by omega)
    have g1 : ∀ j u, ([.int .i64 id, .int .i64 f, .int .i64 t] : List Value)[j]? = some u → cc[os + i * 3 + j]? = some u := hp.get (zI8 hx)
    have hst := Plt.zL4 hx
    dsimp only at hst
    generalize Plt.zb8 (l.take i) = n at hb hb0 hst ⊢
    repeat' (first | ((first | apply w9 | apply y8 | apply x8 | apply p4); exact rfl; exact rfl) | (apply w7; first | refine u9 (h := ?_) | refine y9 (h := ?_) | refine w8 (h := ?_) | refine q6 (h := ?_) | refine q0 (h := ?_)) | (apply p3; exact rfl; exact rfl; exact rfl) | (apply o7; exact rfl; intro _) | (apply q7; first | refine q8 (h := ?_) | refine q9 (h := ?_)) | (apply m8; infer_instance; infer_instance; exact rfl; exact rfl; (first | exact rfl | omega); exact rfl; (first | assumption | omega | decide)) | ((first | apply s9 | apply x9 | apply z8 | apply s7 | apply s8 | apply w4 | apply z9 | apply w5)) | (apply v8; exact rfl; exact tT_) | ((first | apply w6 | apply z6 | apply z0 | apply p5 | apply y0 | apply z7)))
    rename_i b5
    apply j9 (σ := Int) (Fs := fun m => [(6, .int .i64 m), (5, ptr b5), (9, .int .i64 i), (8, .int .i64 (Plt.zd6 id l).length), (7, .slice (some ⟨bs, os, none⟩) (Plt.zd6 id l).length cs), (3, .int .i64 (n + (m - f))), (0, .func (.yield lp) #[] #[]), (1, ptr b1)])
      (Ls := fun m => [⟨b5, Ce [.int .i64 id, .int .i64 f, .int .i64 t] 76, true⟩, ⟨lp, Z .ready none, true⟩, ⟨bd, .deferred (some []), true⟩, ⟨b1, Ce [.slice (some ⟨bs, os, none⟩) (Plt.zd6 id l).length cs] 68, true⟩, ⟨b3, Ce [.int .i64 (n + (m - f))] 3, true⟩])
      (I := fun m => f ≤ m ∧ m ≤ t) (μ := fun m => (t - m).toNat) (s0 := f)
    · exact ⟨by omega, by omega⟩
    · (try dsimp only); rw [show n + (f - f) = n from by omega]; exact fS_
    · (try dsimp only); rw [show n + (f - f) = n from by omega]; exact hS_
    rintro m ⟨hm1, hm2⟩
    by_cases hmt : m < t
    · have es : n + (m - f) + 1 = n + (m + 1 - f) := by omega
      as_aux_lemma =>
        repeat' (first | (apply v8; exact rfl; exact dT_) | (apply zv2; exact rfl; exact eV_; assumption; assumption; exact aT_; exact rfl; exact rfl; (repeat (first | exact RPar.nil | apply RPar.cons)); intro aI haI) | (apply zu5; assumption; exact aT_; exact uP_) | (first | (apply zu7; assumption; exact rfl; assumption; exact aT_; exact uP_) | (apply zj7; assumption; exact rfl; assumption; exact aT_; exact uP_) | (apply zi3; assumption; exact rfl; assumption; exact aT_; exact uP_)) | (first | apply zC3 Try.results58 | apply zv3 Try.results58) | (first | (apply zu6; assumption; assumption; exact aT_; (intro hst; cases hst); exact uP_) | (apply zq3; assumption; assumption; exact aT_; (intro hst; cases hst); exact uP_)) | ((first | apply w9 | apply y8 | apply x8 | apply p4); exact rfl; exact rfl) | (apply w7; first | refine u9 (h := ?_) | refine y9 (h := ?_) | refine w8 (h := ?_) | refine q6 (h := ?_) | refine q0 (h := ?_)) | (apply p3; exact rfl; exact rfl; exact rfl) | (apply zd5; exact rfl; exact rfl) | (apply j0; exact rfl; exact rfl; exact rfl; (constructor <;> omega)) | (apply q7; first | refine q8 (h := ?_) | refine q9 (h := ?_)) | ((first | apply s9 | apply x9 | apply z8 | apply s7 | apply s8 | apply w4 | apply z9 | apply w5)) | (apply v9; exact rfl; exact fF_) | ((first | apply w6 | apply z6 | apply z0 | apply p5 | apply y0 | apply z7)))
        refine o0 (m + 1) ⟨by omega, by omega⟩ (by omega) ?_ ?_
        · (try dsimp only); rw [← es]; exact fS_
        · (try dsimp only); rw [← es]; exact hS_
    · obtain rfl : m = t := by omega
      as_aux_lemma =>
        repeat' (first | (apply v9; exact rfl; exact dF_) | ((first | apply w9 | apply y8 | apply x8 | apply p4); exact rfl; exact rfl) | (apply w7; first | refine u9 (h := ?_) | refine y9 (h := ?_) | refine w8 (h := ?_) | refine q6 (h := ?_) | refine q0 (h := ?_)) | (apply p3; exact rfl; exact rfl; exact rfl) | (apply j0; exact rfl; exact rfl; exact rfl; (constructor <;> omega)) | ((first | apply s9 | apply x9 | apply z8 | apply s7 | apply s8 | apply w4 | apply z9 | apply w5)) | ((first | apply w6 | apply z6 | apply z0 | apply p5 | apply y0 | apply z7)))
        refine o0 (i + 1) (by omega) (by omega) ?_ ?_
        · (try dsimp only); rw [hst]; exact fS_
        · (try dsimp only); rw [hst]; exact hS_
  obtain rfl : i = l.length := by omega
  rw [List.take_length]
  repeat' (first | (apply v9; exact rfl; exact dF_) | (apply zv2; exact rfl; exact eV_; assumption; assumption; exact aT_; exact rfl; exact rfl; (repeat (first | exact RPar.nil | apply RPar.cons)); intro aI haI) | (apply zu5; assumption; exact aT_; exact uP_) | (first | (apply zu7; assumption; exact rfl; assumption; exact aT_; exact uP_) | (apply zj7; assumption; exact rfl; assumption; exact aT_; exact uP_) | (apply zi3; assumption; exact rfl; assumption; exact aT_; exact uP_)) | (first | apply zC3 Try.results58 | apply zv3 Try.results58) | (first | (apply zu6; assumption; assumption; exact aT_; (intro hst; cases hst); exact uP_) | (apply zq3; assumption; assumption; exact aT_; (intro hst; cases hst); exact uP_)) | ((first | apply w9 | apply y8 | apply x8 | apply p4); exact rfl; exact rfl) | (apply w7; first | refine u9 (h := ?_) | refine y9 (h := ?_) | refine w8 (h := ?_) | refine q6 (h := ?_) | refine q0 (h := ?_)) | (apply p3; exact rfl; exact rfl; exact rfl) | ((first | apply s9 | apply x9 | apply z8 | apply s7 | apply s8 | apply w4 | apply z9 | apply w5)) | ((first | apply w6 | apply z6 | apply z0 | apply p5 | apply y0 | apply z7)))
  (first | (apply zU1; exact aT_; exact uP_; apply zb0 Try.results56; exact rV_; intro w' hw) | (apply zU0; apply zb0 Try.results56; exact rV_; intro w' hw))
  exact ⟨rfl, hw.below (by simp)⟩
end Go.Proofs.Ytdahckhlfldkkaa
namespace Go.Sx
open Go Go.RowKit
inductive EqA : List TypeDesc → List Value → List Value → Prop
  | nil : EqA [] [] []
  | int {k k' : IntKind} {a c : Int} {ds : List TypeDesc} {xs ys : List Value} : EqA ds xs ys → EqA (.int k' :: ds) (.int k a :: xs) (.int k c :: ys)
  | bool {a c : Bool} {ds : List TypeDesc} {xs ys : List Value} : EqA ds xs ys → EqA (.bool :: ds) (.bool a :: xs) (.bool c :: ys)
  | str {a c : List UInt8} {ds : List TypeDesc} {xs ys : List Value} : EqA ds xs ys → EqA (.string :: ds) (str a :: xs) (str c :: ys)
def eq1 : Value → Value → Bool
  | .int _ a, .int _ c => a == c
  | .bool a, .bool c => a == c
  | .string a, .string c => a.toList == c.toList
  | _, _ => false
def eqA : List Value → List Value → Bool
  | u :: xs, v :: ys => eq1 u v && eqA xs ys
  | _, _ => true
theorem EqA.one {d : TypeDesc} {ds : List TypeDesc} {u v : Value} {xs ys : List Value} (h : EqA (d :: ds) (u :: xs) (v :: ys)) :
    EqA ds xs ys ∧ ∀ (P : Program) (fuel : Nat) (t : TypeId) (w : World), P.underlying t = some d → (Op.equalIn (fuel + 1) t u v).run P w = .ok (eq1 u v) w := by
  cases h with
  | @int k k' a c ds xs ys h' => exact ⟨h', fun P fuel t w hu => run_equalIn_int w fuel t k k' a c hu⟩
  | @bool a c ds xs ys h' => exact ⟨h', fun P fuel t w hu => run_equalIn_bool w fuel t a c hu⟩
  | @str a c ds xs ys h' => exact ⟨h', fun P fuel t w hu => run_equalIn_string w fuel t _ _ hu⟩
section
variable {r : Option Nat} {P : Program} {n : Nat} {D : List Deferred} {w0 : World} {F : List (Nat × Value)} {L : List Ent} {Q : Exit → Act → World → Prop} {ops : Array Oper}
variable {d : Tmp} {ty : TypeId} {pos : String} {af : Array Edge} {rest : List Oper}
end
end Go.Sx
namespace Go.Sx
open Go Go.RowKit
section
variable {r : Option Nat} {P : Program} {n : Nat} {D : List Deferred} {w0 : World} {F : List (Nat × Value)} {L L' : List Ent} {Q : Exit → Act → World → Prop} {ops : Array Oper}
variable {d : Tmp} {ty : TypeId} {pos : String} {af : Array Edge} {rest : List Oper}
theorem zE2 {p : Prop} {X : Act → World → Prop} (hp : ∀ w, Rep w0 w L → p) (h : p → St n D w0 F L X) : St n D w0 F L X := fun a w ha hw => h (hp w hw) a w ha hw
theorem SV.cell {α : Type} {w : World} {k m c b off i j : Nat} {enc : α → List Value} {xs : List α} {x : α} {u : Value} (h : SV w k enc (.slice (some ⟨b, off, none⟩) m c) xs) (hx : xs[i]? = some x) (hj : (enc x)[j]? = some u) : w.cell? ⟨b, off + i * k + j, none⟩ = some u := by
  obtain ⟨_, _, e1, _, hop⟩ := h.open
  cases e1
  obtain ⟨b', off', cc, e, fz, e2, hk, hp⟩ := hop (by have := (List.getElem?_eq_some_iff.1 hx).1; omega)
  cases e2
  have := hp.get hx j u hj
  simp [World.cell?, hk, this]
theorem zW7 {t : TypeId} {x : Operand} {b p : Nat} {v : Value} (hA : TA P t false) (hx : ev F x = some (.pointer (some ⟨b, p, none⟩))) (hc : ∀ w, Rep w0 w L → w.cell? ⟨b, p, none⟩ = some v)
    (hd : Nat.ble (d + 1) n = true) (h : St n D w0 ((d, v) :: F) L (WL r P ops Q rest)) : St n D w0 F L (WL r P ops Q (⟨some d, .load t x, ty, pos, af, none⟩ :: rest)) :=
  zf3 rfl hd (fun a w ha hw => by
    simp [execOp, ha.eval hx, Instr.loadAt, Instr.sureAddr, loadVar, TA.h (P := P) (t := t), hc w hw]) h
theorem zR0 {t : TypeId} {k : Nat} {x : Operand} {b p : Nat} {l : List Value} (hA : TA P t true) (hS : TS P t k) (hx : ev F x = some (.pointer (some ⟨b, p, none⟩))) (hc : ∀ w, Rep w0 w L → ∀ j v, l[j]? = some v → w.cell? ⟨b, p + j, none⟩ = some v) (hl : l.length = k)
    (hd : Nat.ble (d + 1) n = true) (h : St n D w0 ((d, .agg l.toArray) :: F) L (WL r P ops Q rest)) : St n D w0 F L (WL r P ops Q (⟨some d, .load t x, ty, pos, af, none⟩ :: rest)) :=
  zf3 rfl hd (fun a w ha hw => by
    subst hl
    have hc := run_loadCells_list (P := P) w ⟨b, p, none⟩ l (fun j v hj => by rw [zh8]; exact hc w hw j v hj)
    simp [execOp, ha.eval hx, Instr.loadAt, Instr.sureAddr, loadVar, TA.h (P := P) (t := t), TS.h (P := P) (t := t), hc]) h
end
end Go.Sx
namespace Go.Sx
open Go Go.RowKit
section
variable {P : Program} {n : Nat} {D : List Deferred} {w0 : World} {F : List (Nat × Value)} {L : List Ent} {J J1 : Made} {Φ : zf2} {X : Act → World → Prop} {kq : Nat} {ops : Array Oper}
variable {d : Tmp} {ty : TypeId} {pos : String} {af : Array Edge} {rest : List Oper}
end
theorem SV.cell1 {α : Type} {w : World} {k m c b off i : Nat} {enc : α → List Value} {xs : List α} {x : α} {u : Value} (h : SV w k enc (.slice (some ⟨b, off, none⟩) m c) xs) (hx : xs[i]? = some x) (hj : (enc x)[0]? = some u) : w.cell? ⟨b, off + i * k, none⟩ = some u := h.cell (j := 0) hx hj
end Go.Sx
namespace Go.Sx
open Go Go.RowKit
theorem SV.ptr {α : Type} {w : World} {k m c : Nat} {a : Option Addr} {enc : α → List Value} {xs : List α} {x : α} {i : Nat} (h : SV w k enc (.slice a m c) xs) (hx : xs[i]? = some x) : ∃ b off, a = some ⟨b, off, none⟩ := by
  obtain ⟨_, _, e1, _, hop⟩ := h.open
  cases e1
  obtain ⟨b, off, _, _, _, e2, _⟩ := hop (by have := (List.getElem?_eq_some_iff.1 hx).1; omega)
  exact ⟨b, off, e2⟩
theorem SV.sd {α : Type} {w : World} {k : Nat} {d : SD} {enc : α → List Value} {xs : List α} (h : SV w k enc (sdV d) xs) : ∃ a c, d = (a, xs.length, c) := by
  obtain ⟨a, n, c⟩ := d
  obtain ⟨_, _, e1, _, _⟩ := h.open
  cases e1
  exact ⟨a, c, rfl⟩
end Go.Sx
namespace Go.Proofs.Ytdahckhlfldkkaa
open Go Go.Sx Go.RowKit
section
variable {P : Program} {n : Nat} {D : List Deferred} {w0 : World} {F : List (Nat × Value)} {L : List Ent} {J J1 : Made} {Φ : zf2} {X : Act → World → Prop} {kq : Nat} {ops : Array Oper} {Q : Exit → Act → World → Prop} {r : Option Nat}
variable {d : Tmp} {ty : TypeId} {pos : String} {af : Array Edge} {rest : List Oper}
variable {x y : Operand} {m l v : Int} {t u : TypeId} (hx : ev F x = some (.int .i64 m)) (hy : ev F y = some (.int .i64 l))
include hx hy
theorem yk2 (e : m * l = v) (hr : -9223372036854775808 ≤ v ∧ v ≤ 9223372036854775807) (hd : Nat.ble (d + 1) n = true) (h : St n D w0 ((d, .int .i64 v) :: F) L (WL r P ops Q rest)) : St n D w0 F L (WL r P ops Q (⟨some d, .binOp .mul t x y u, ty, pos, af, none⟩ :: rest)) := by subst e; exact zt7 hx hy hd hr h
theorem yE0 (e : m / l = v) (hr : 0 ≤ m ∧ 0 < l ∧ m ≤ 9223372036854775807) (hd : Nat.ble (d + 1) n = true) (h : St n D w0 ((d, .int .i64 v) :: F) L (WL r P ops Q rest)) : St n D w0 F L (WL r P ops Q (⟨some d, .binOp .quo t x y u, ty, pos, af, none⟩ :: rest)) := by subst e; exact yH0 hx hy hd hr h
end
section
variable {P : Program} {n : Nat} {D : List Deferred} {w0 : World} {F : List (Nat × Value)} {L : List Ent} {J J1 : Made} {Φ : zf2} {X : Act → World → Prop} {kq : Nat} {ops : Array Oper} {Q : Exit → Act → World → Prop} {r : Option Nat}
variable {d : Tmp} {ty : TypeId} {pos : String} {af : Array Edge} {rest : List Oper}
end
end Go.Proofs.Ytdahckhlfldkkaa
namespace Go.Proofs.Ytdahckhlfldkkaa
open Go Go.Sx Go.RowKit
def Shw (N : List Ent) (p : World → Prop) : Prop := ∀ (w0 w : World) (L L0 : List Ent), RemL L N L0 → Rep w0 w L → p w
theorem Shw.left {A B : List Ent} {p : World → Prop} (h : Shw A p) : Shw (A ++ B) p := fun w0 w L L0 hr hw => h w0 w L (B ++ L0) (List.Perm.trans hr (by rw [List.append_assoc])) hw
theorem Shw.right {A B : List Ent} {p : World → Prop} (h : Shw B p) : Shw (A ++ B) p := fun w0 w L L0 hr hw => h w0 w L (A ++ L0) (List.Perm.trans hr (by rw [List.append_assoc]; exact List.perm_append_comm_assoc _ _ _)) hw
theorem Shw.mono {N : List Ent} {p q : World → Prop} (h : Shw N p) (hpq : ∀ w, p w → q w) : Shw N q := fun w0 w L L0 hr hw => hpq w (h w0 w L L0 hr hw)
theorem Shw.and {N : List Ent} {p q : World → Prop} (h : Shw N p) (h' : Shw N q) : Shw N (fun w => p w ∧ q w) := fun w0 w L L0 hr hw => ⟨h w0 w L L0 hr hw, h' w0 w L L0 hr hw⟩
theorem Shw.ow {α : Type} {E : TypeId} {k : Nat} {enc : α → List Value} {v : Value} {xs : List α} {N : List Ent} (henc : ∀ x, (enc x).length = k) (h : OW E k enc v xs N) : Shw N (fun w => SV w k enc v xs) := fun w0 w L L0 hr hw => h.sv henc hr hw
theorem Shw.ll {α : Type} {E : TypeId} {k : Nat} {enc : α → List Value} {ss : List SD} {xss : List (List α)} {N : List Ent} (henc : ∀ x, (enc x).length = k) (h : LL E k enc ss xss N) : Shw N (fun w => SL w k enc ss xss) := fun w0 w L L0 hr hw => h.sl henc hr hw
def R2 {α β : Type} (R : World → α → β → Prop) (xs : List α) (ys : List β) (w : World) : Prop := ∀ (i : Nat) (a : α) (b : β), xs[i]? = some a → ys[i]? = some b → R w a b
theorem yg3 {α β : Type} {R : World → α → β → Prop} {N : List Ent} : Shw N (R2 R [] []) := fun _ _ _ _ _ _ i a b h _ => by simp at h
theorem yg2 {α β : Type} {R : World → α → β → Prop} {xs xs' : List α} {ys ys' : List β} {N N' : List Ent} (hl : xs.length = ys.length) (h : Shw N (R2 R xs ys)) (h' : Shw N' (R2 R xs' ys')) : Shw (N' ++ N) (R2 R (xs ++ xs') (ys ++ ys')) :=
  fun w0 w L L0 hr hw i a b ha hb => by
    by_cases hi : i < xs.length
    · rw [List.getElem?_append_left hi] at ha
      rw [List.getElem?_append_left (by omega)] at hb
      exact (Shw.right h) w0 w L L0 hr hw i a b ha hb
    · rw [List.getElem?_append_right (by omega)] at ha hb
      rw [← hl] at hb
      exact (Shw.left h') w0 w L L0 hr hw _ a b ha hb
theorem yl7 {n : Nat} {D : List Deferred} {w0 : World} {F : List (Nat × Value)} {L : List Ent} {X : Act → World → Prop} (h : ∀ w1, Rep w0 w1 L → St n D w1 F [] X) : St n D w0 F L X := by
  unfold St at *
  exact fun a w ha hw => h w hw a w ha (Rep.start w)
theorem Shw.all {N : List Ent} {q : World → Prop} (h : Shw N q) {w0 w : World} (hw : Rep w0 w N) : q w := h w0 w N [] RemL.all hw
theorem zc9 {A B : List Ent} (h1 : ∀ x ∈ A, x.own = true) (h2 : ∀ x ∈ B, x.own = true) : ∀ x ∈ A ++ B, x.own = true := fun x hx => (List.mem_append.1 hx).elim (h1 x) (h2 x)
end Go.Proofs.Ytdahckhlfldkkaa
namespace Go.Sx.Plt
def unF (l : List Int) : List (Int × Bool) := l.foldl (fun m x => ze8 x true m) []
theorem zS6 (l : List Int) (x : Int) : unF (l ++ [x]) = ze8 x true (unF l) := by simp [unF]
theorem zv6 (l : List Row) (e : Row) : zg9 (l ++ [e]) = ze8 e.stop e.st (zg9 l) := by simp [zg9]
theorem zn0 {α : Type} {p : List α → Prop} (h0 : p []) (h1 : ∀ l x, p l → p (l ++ [x])) (l : List α) : p l := by
  have : ∀ (r : List α), p r.reverse := by
    intro r
    induction r with
    | nil => simpa using h0
    | cons a r ih => rw [List.reverse_cons]; exact h1 _ _ ih
  simpa using this l.reverse
theorem zY1 (l : List Int) : ((unF l).map Prod.fst).Nodup := by
  refine zn0 (p := fun l => ((unF l).map Prod.fst).Nodup) (by simp [unF]) (fun l x h => ?_) l
  rw [zS6]; exact zg8 h
theorem zJ0 (l : List Row) : ((zg9 l).map Prod.fst).Nodup := by
  refine zn0 (p := fun l => ((zg9 l).map Prod.fst).Nodup) (by simp [zg9]) (fun l x h => ?_) l
  rw [zv6]; exact zg8 h
theorem yJ8 (l : List Int) (x : Int) : asF x (unF l) = if x ∈ l then some true else none := by
  refine zn0 (p := fun l => asF x (unF l) = if x ∈ l then some true else none) (by simp [unF, asF]) (fun l y h => ?_) l
  rw [zS6, zj9]
  by_cases e : y = x
  · simp [e]
  · have e' : ¬ x = y := fun h => e h.symm
    rw [if_neg e, h]
    simp [e']
end Go.Sx.Plt
namespace Go.Proofs.Ytdahckhlfldkkaa
open Go Go.Sx Go.RowKit
attribute [local irreducible] WL WC WQ WR WB WF QB St Exit.then Exit.inBlock Exit.noGoto bodyPost roundPost zc1 YR RG BM Calls B zc7 ze3
def vM (d : MD) : Value := .agg #[.int .i64 d.id, .int .i64 d.sweeps, .int .i64 d.rate, sdV d.caps, sdV d.shifts]
def zq7 (bh bm bs bi be bf : Nat) (ml : List (Int × MD)) (stops : List (Int × Int)) (its : List ((Int × Int) × SD)) (ends free : List (Int × Int)) : List Ent :=
  [⟨bh, Ce [.map (some bm), .map (some bs), .map (some bi), .map (some be), .map (some bf)] 136, true⟩, ⟨bm, MO (MM kI vM ml), true⟩, ⟨bs, MO (MM kI kI stops), true⟩, ⟨bi, MO (MM kP sdV its), true⟩, ⟨be, MO (MM kI kI ends), true⟩, ⟨bf, MO (MM kI kI free), true⟩]
theorem zW0 {bh bm bs bi be bf : Nat} {ml : List (Int × MD)} {stops : List (Int × Int)} {its : List ((Int × Int) × SD)} {ends free : List (Int × Int)} : ∀ x ∈ zq7 bh bm bs bi be bf ml stops its ends free, x.own = true := by simp [zq7]
set_option maxHeartbeats 8000000 in
set_option maxRecDepth 100000 in
theorem zI0 {iv : Value} {items : List Int} {y : Plt.za3} {d : PD} {stops : List (Int × Int)} {bh bm bs bi be bf : Nat} (w : World) (h1 : w.heap[bh]? = some (Ce [.map (some bm), .map (some bs), .map (some bi), .map (some be), .map (some bf)] 136)) (h2 : w.heap[bs]? = some (MO (MM kI kI stops))) (hsn : (stops.map Prod.fst).Nodup) (hy : PassV w d y) (hi : SV w 1 encI iv items) (hn : items.length ≤ 1000000) :
    Calls Try.prog 57 #[ptr bh, .agg #[.int .i64 d.id, .int .i64 d.mach, .int .i64 d.rel, sdV d.src, sdV d.table, sdV d.unread], iv] w fun e w' => ∃ v N, e = .returned v ∧ (∃ a c, v = .slice a items.length c ∧ OW 186 2 zo0 (.slice a items.length c) (items.map (Plt.zb9 stops y)) N ∧ ∀ x ∈ N, x.own = true) ∧ Rep w w' N ∧ ∀ x ∈ N, x.own = true := by
  obtain ⟨id, ma, re, ⟨a1, n1, c1⟩, ⟨a2, n2, c2⟩, ⟨a3, n3, c3⟩⟩ := d
  obtain ⟨e1, e2, e3, hs, hr, hu⟩ := hy
  dsimp only [sdV] at e1 e2 e3 hs hr hu ⊢
  subst e1 e2 e3
  obtain ⟨_, _, e1, hc1, -⟩ := hs.open
  cases e1
  obtain ⟨_, _, e2, hc2, hop2⟩ := hr.open
  cases e2
  obtain ⟨_, _, e3, hc3, hop3⟩ := hu.open
  cases e3
  obtain ⟨ai, ci, rfl, hci, hopi⟩ := hi.open
  refine zd8 Try.func57 rfl Try.ntmps57 rfl (Rep.start w) ?_
  repeat' (first | ((first | apply w9 | apply y8 | apply x8 | apply p4 | apply n0); exact rfl; exact rfl) | (apply w7; first | refine u9 (h := ?_) | refine y9 (h := ?_) | refine w8 (h := ?_) | refine q6 (h := ?_) | refine q0 (h := ?_)) | (apply zc5; exact rfl; exact rfl; exact rfl; intro _) | (apply o9; infer_instance; exact rfl; exact rfl) | (apply zm0; infer_instance; exact rfl; exact rfl; intro _) | ((first | apply s9 | apply x9 | apply z8 | apply s7 | apply s8 | apply w4 | apply z9 | apply w5)) | ((first | apply w6 | apply z6 | apply z0 | apply p5 | apply y0 | apply z7)))
  rename_i b4 bt
  apply j9 (σ := Nat) (Fs := fun i => [(26, .int .i64 i), (25, .int .i64 y.table.length), (24, .slice a2 y.table.length c2), (7, .map (some bt)), (4, ptr b4), (2, .slice ai items.length ci), (0, ptr bh)])
    (Ls := fun i => [⟨bt, MO (MM kI kI (Plt.zg9 (y.table.take i))), true⟩, ⟨b4, Ce [.int .i64 y.id, .int .i64 y.mach, .int .i64 y.rel, .slice a1 y.src.length c1, .slice a2 y.table.length c2, .slice a3 y.unread.length c3] 49, true⟩]) (I := fun i => i ≤ y.table.length) (μ := fun i => y.table.length - i) (s0 := 0)
  · exact Nat.zero_le _
  · exact fS_
  · exact hS_
  intro i hi'
  have hi2 : i ≤ y.table.length := hi'
  by_cases hlt : i < y.table.length
  · obtain ⟨⟨st, sk⟩, hx⟩ : ∃ s, y.table[i]? = some s := ⟨_, List.getElem?_eq_getElem hlt⟩
    obtain ⟨b, off, cc, e, fz, rfl, hk, hpt⟩ := hop2 (by omega)
    have g1 : ∀ j u, ([.int .i64 st, .int .i64 sk] : List Value)[j]? = some u → cc[off + i * 2 + j]? = some u := hpt.get hx
    have hsn2 : Plt.zg9 (y.table.take (i + 1)) = ze8 st sk (Plt.zg9 (y.table.take i)) := by rw [take_snoc hx, Plt.zv6]
    have htn := Plt.zJ0 (y.table.take i)
    as_aux_lemma =>
      repeat' (first | (apply v8; exact rfl; exact dT_) | ((apply zm6 (κ := kI) (ν := kI) (k := st) (v := sk)); infer_instance; infer_instance; exact rfl; exact rfl; exact rfl; exact aT_; assumption; exact uP_) | ((first | apply w9 | apply y8 | apply x8 | apply p4 | apply n0); exact rfl; exact rfl) | (apply w7; first | refine u9 (h := ?_) | refine y9 (h := ?_) | refine w8 (h := ?_) | refine q6 (h := ?_) | refine q0 (h := ?_)) | ((first | apply p3 | apply p0); exact rfl; exact rfl; exact rfl) | (apply j0; exact rfl; exact rfl; exact rfl; (constructor <;> omega)) | ((first | apply o7 | apply c8); exact rfl; intro _) | (apply q7; first | refine q8 (h := ?_) | refine q9 (h := ?_)) | (apply m8; infer_instance; infer_instance; exact rfl; exact rfl; (first | exact rfl | omega); exact rfl; (first | assumption | omega | decide)) | ((first | apply s9 | apply x9 | apply z8 | apply s7 | apply s8 | apply w4 | apply z9 | apply w5)) | ((first | apply w6 | apply z6 | apply z0 | apply p5 | apply y0 | apply z7)))
      refine o0 (i + 1) (by omega) (by omega) ?_ ?_
      · exact fS_
      · (try dsimp only); rw [hsn2]; exact hS_
  obtain rfl : i = y.table.length := by omega
  rw [List.take_length]
  have htn := Plt.zJ0 y.table
  clear hop2
  repeat' (first | (apply v9; exact rfl; exact dF_) | ((first | apply w9 | apply y8 | apply x8 | apply p4 | apply n0); exact rfl; exact rfl) | (apply w7; first | refine u9 (h := ?_) | refine y9 (h := ?_) | refine w8 (h := ?_) | refine q6 (h := ?_) | refine q0 (h := ?_)) | ((first | apply p3 | apply p0); exact rfl; exact rfl; exact rfl) | (apply o9; infer_instance; exact rfl; exact rfl) | (apply zm0; infer_instance; exact rfl; exact rfl; intro _) | ((first | apply s9 | apply x9 | apply z8 | apply s7 | apply s8 | apply w4 | apply z9 | apply w5)) | ((first | apply w6 | apply z6 | apply z0 | apply p5 | apply y0 | apply z7)))
  rename_i bu
  apply j9 (σ := Nat) (Fs := fun i => [(43, .int .i64 i), (42, .int .i64 y.unread.length), (41, .slice a3 y.unread.length c3), (10, .map (some bu)), (7, .map (some bt)), (4, ptr b4), (2, .slice ai items.length ci), (0, ptr bh)])
    (Ls := fun i => [⟨bu, MO (MM kI vB (Plt.unF (y.unread.take i))), true⟩, ⟨bt, MO (MM kI kI (Plt.zg9 y.table)), true⟩, ⟨b4, Ce [.int .i64 y.id, .int .i64 y.mach, .int .i64 y.rel, .slice a1 y.src.length c1, .slice a2 y.table.length c2, .slice a3 y.unread.length c3] 49, true⟩]) (I := fun i => i ≤ y.unread.length) (μ := fun i => y.unread.length - i) (s0 := 0)
  · exact Nat.zero_le _
  · exact fS_
  · exact hS_
  intro i hi'
  have hi2 : i ≤ y.unread.length := hi'
  by_cases hlt : i < y.unread.length
  · obtain ⟨x, hx⟩ : ∃ s, y.unread[i]? = some s := ⟨_, List.getElem?_eq_getElem hlt⟩
    obtain ⟨b, off, cc, e, fz, rfl, hk, hpt⟩ := hop3 (by omega)
    have g1 := hpt.one hx rfl
    have hsn2 : Plt.unF (y.unread.take (i + 1)) = ze8 x true (Plt.unF (y.unread.take i)) := by rw [take_snoc hx, Plt.zS6]
    have hun := Plt.zY1 (y.unread.take i)
    as_aux_lemma =>
      repeat' (first | (apply v8; exact rfl; exact dT_) | ((apply zm6 (κ := kI) (ν := vB) (k := x) (v := true)); infer_instance; infer_instance; exact rfl; exact rfl; exact rfl; exact aT_; assumption; exact uP_) | ((first | apply w9 | apply y8 | apply x8 | apply p4 | apply n0); exact rfl; exact rfl) | (apply w7; first | refine u9 (h := ?_) | refine y9 (h := ?_) | refine w8 (h := ?_) | refine q6 (h := ?_) | refine q0 (h := ?_)) | ((first | apply p3 | apply p0); exact rfl; exact rfl; exact rfl) | (apply j0; exact rfl; exact rfl; exact rfl; (constructor <;> omega)) | (apply m8; infer_instance; infer_instance; exact rfl; exact rfl; (first | exact rfl | omega); exact rfl; (first | assumption | omega | decide)) | ((first | apply s9 | apply x9 | apply z8 | apply s7 | apply s8 | apply w4 | apply z9 | apply w5)) | ((first | apply w6 | apply z6 | apply z0 | apply p5 | apply y0 | apply z7)))
      refine o0 (i + 1) (by omega) (by omega) ?_ ?_
      · exact fS_
      · (try dsimp only); rw [hsn2]; exact hS_
  obtain rfl : i = y.unread.length := by omega
  rw [List.take_length]
  have hun := Plt.zY1 y.unread
  have hua := Plt.yJ8 y.unread
  clear hop3
  repeat' (first | (apply v9; exact rfl; exact dF_) | ((first | apply w9 | apply y8 | apply x8 | apply p4 | apply n0); exact rfl; exact rfl) | ((first | apply p3 | apply p0); exact rfl; exact rfl; exact rfl) | (apply o9; infer_instance; exact rfl; exact rfl) | (apply zE6; refine zJ1 (h := fun _ => ?_)) | ((first | apply s9 | apply x9 | apply z8 | apply s7 | apply s8 | apply w4 | apply z9 | apply w5)) | ((first | apply w6 | apply z6 | apply z0 | apply p5 | apply y0 | apply z7)))
  rename_i bz
  apply j9 (σ := Nat × (Option Addr × Nat) × List Ent) (Fs := fun t => [(55, .int .i64 t.1), (54, .int .i64 items.length), (53, .slice ai items.length ci), (13, .slice t.2.1.1 ((items.take t.1).map (Plt.zb9 stops y)).length t.2.1.2), (10, .map (some bu)), (7, .map (some bt)), (4, ptr b4), (0, ptr bh)])
    (Ls := fun t => t.2.2 ++ [⟨bu, MO (MM kI vB (Plt.unF y.unread)), true⟩, ⟨bt, MO (MM kI kI (Plt.zg9 y.table)), true⟩, ⟨b4, Ce [.int .i64 y.id, .int .i64 y.mach, .int .i64 y.rel, .slice a1 y.src.length c1, .slice a2 y.table.length c2, .slice a3 y.unread.length c3] 49, true⟩])
    (I := fun t => t.1 ≤ items.length ∧ OW 186 2 zo0 (.slice t.2.1.1 ((items.take t.1).map (Plt.zb9 stops y)).length t.2.1.2) ((items.take t.1).map (Plt.zb9 stops y)) t.2.2) (μ := fun t => items.length - t.1)
    (s0 := (0, (some ⟨bz, 0, none⟩, items.length), [⟨bz, Ce (([] : List Srt.Fd).flatMap zo0 ++ (List.replicate items.length [Value.int .i64 0, Value.int .i64 0]).flatten) 186, true⟩]))
  · exact ⟨Nat.zero_le _, OW.row (E := 186) (k := 2) (enc := zo0) (b := bz) (cap := items.length) (xs := []) (s := (List.replicate items.length [Value.int .i64 0, Value.int .i64 0]).flatten) (by simp) ⟨Nat.zero_le _, by simp⟩⟩
  · exact fS_
  · exact hS_
  rintro ⟨i, ⟨af, cf⟩, NF⟩ ⟨hi2, hO⟩
  dsimp only at hi2 hO ⊢
  have oF := hO.own
  by_cases hlt : i < items.length
  · obtain ⟨x, hx⟩ : ∃ s, items[i]? = some s := ⟨_, List.getElem?_eq_getElem hlt⟩
    obtain ⟨b, off, cc, e, fz, rfl, hk, hpt⟩ := hopi (by omega)
    have g1 := hpt.one hx rfl
    have hrl : ((items.take i).map (Plt.zb9 stops y)).length = i := by rw [List.length_map, List.length_take]; omega
    have hsnoc : ∀ k, Plt.zb9 stops y x = ⟨x, k⟩ → (items.take (i + 1)).map (Plt.zb9 stops y) = (items.take i).map (Plt.zb9 stops y) ++ [⟨x, k⟩] := fun k hk => by rw [take_snoc hx, List.map_append, List.map_cons, List.map_nil, hk]
    generalize (items.take i).map (Plt.zb9 stops y) = R at hO hrl hsnoc ⊢
    obtain ⟨st, hst⟩ : ∃ st, (asF x stops).getD 0 = st := ⟨_, rfl⟩
    have hfo : Plt.zb9 stops y x = match asF st (Plt.zg9 y.table) with
      | some k => ⟨x, if x ∈ y.unread then -1 else k⟩
      | none => ⟨x, -1⟩ := by unfold Plt.zb9; rw [hst]; cases asF st (Plt.zg9 y.table) <;> rfl
    have hcase : (asF x stops = some st) ∨ (asF x stops = none ∧ st = 0) := by
      cases h : asF x stops with
      | none => rw [h] at hst; exact .inr ⟨rfl, hst.symm⟩
      | some z => rw [h] at hst; exact .inl (by rw [← hst]; rfl)
    generalize Plt.zg9 y.table = tab at htn hfo ⊢
    generalize Plt.unF y.unread = un at hun hua ⊢
    cases hta : asF st tab with
    | none =>
      rw [hta] at hfo
      have hsn2 := hsnoc (-1) hfo
      rcases hcase with hs1 | ⟨hs1, rfl⟩
      all_goals
        as_aux_lemma =>
          repeat' (first | (apply v8; exact rfl; exact dT_) | ((apply zt6 (κ := kI) (ν := kI) (k := x) (v := st)); infer_instance; infer_instance; exact rfl; exact rfl; exact kN_; assumption; assumption; exact rfl) | ((apply zv1 (κ := kI) (ν := kI) (k := x)); infer_instance; infer_instance; infer_instance; exact rfl; exact rfl; exact kN_; assumption; exact rfl) | ((apply zs1 (κ := kI) (ν := kI) (k := st)); infer_instance; infer_instance; infer_instance; exact rfl; exact rfl; exact kN_; assumption; exact rfl) | ((apply zs1 (κ := kI) (ν := kI) (k := 0)); infer_instance; infer_instance; infer_instance; exact rfl; exact rfl; exact kN_; assumption; exact rfl) | (apply zc4 (enc := zo0) (ys := [(⟨x, -1⟩ : Srt.Fd)]); infer_instance; infer_instance; infer_instance; exact rfl; exact zl0; exact zG8; exact rfl; exact rfl; exact rfl; assumption; exact rL_; (exact fun w hw => SV.lit [(⟨x, -1⟩ : Srt.Fd)] zl0 hw (by exact aT_) rfl rfl (by decide)); (first | decide | (constructor <;> (try simp only [List.length_cons, List.length_nil]) <;> omega) | (constructor <;> simp <;> omega)); intro a_ cp_ N_ hO_; have oN_ := hO_.own; (try simp only [List.nil_append, List.append_assoc] at hO_); (try simp only [List.append_eq, List.append_assoc, List.cons_append, List.nil_append])) | ((first | apply w9 | apply y8 | apply x8 | apply p4 | apply n0); exact rfl; exact rfl) | (apply w7; first | refine u9 (h := ?_) | refine y9 (h := ?_) | refine w8 (h := ?_) | refine q6 (h := ?_) | refine q0 (h := ?_)) | ((first | apply p3 | apply p0); exact rfl; exact rfl; exact rfl) | (apply j0; exact rfl; exact rfl; exact rfl; (constructor <;> omega)) | (apply p9; exact rfl; exact fF_; exact rfl; exact rfl) | ((first | apply o7 | apply c8); exact rfl; intro _) | (apply q7; first | refine q8 (h := ?_) | refine q9 (h := ?_)) | (apply g7; first | refine a8 (h := ?_)) | (apply m9; refine l9 (h := fun _ => ?_)) | (apply m8; infer_instance; infer_instance; exact rfl; exact rfl; (first | exact rfl | omega); exact rfl; (first | assumption | omega | decide)) | (apply za5; exact rfl; exact gG_; exact rfl) | ((first | apply s9 | apply x9 | apply z8 | apply s7 | apply s8 | apply w4 | apply z9 | apply w5)) | (apply v9; exact rfl; exact fF_) | ((first | apply w6 | apply z6 | apply z0 | apply p5 | apply y0 | apply z7)))
          refine o0 (i + 1, (a_, cp_), N_) ⟨by dsimp only; omega, by dsimp only; rw [hsn2]; exact hO_⟩ (by dsimp only; omega) ?_ ?_
          · dsimp only; rw [hsn2]; exact fS_
          · exact hS_
    | some sk =>
      rw [hta] at hfo
      dsimp only at hfo
      have hux := hua x
      by_cases hin : x ∈ y.unread
      · rw [if_pos hin] at hfo hux
        have hsn2 := hsnoc (-1) hfo
        rcases hcase with hs1 | ⟨hs1, rfl⟩
        all_goals
          as_aux_lemma =>
            repeat' (first | (apply v8; exact rfl; exact dT_) | ((apply zt6 (κ := kI) (ν := kI) (k := x) (v := st)); infer_instance; infer_instance; exact rfl; exact rfl; exact kN_; assumption; assumption; exact rfl) | ((apply zv1 (κ := kI) (ν := kI) (k := x)); infer_instance; infer_instance; infer_instance; exact rfl; exact rfl; exact kN_; assumption; exact rfl) | ((apply zr0 (κ := kI) (ν := kI) (k := st) (v := sk)); infer_instance; infer_instance; exact rfl; exact rfl; exact kN_; assumption; assumption; exact rfl) | ((apply zr0 (κ := kI) (ν := kI) (k := 0) (v := sk)); infer_instance; infer_instance; exact rfl; exact rfl; exact kN_; assumption; assumption; exact rfl) | ((apply zt6 (κ := kI) (ν := vB) (k := x) (v := true)); infer_instance; infer_instance; exact rfl; exact rfl; exact kN_; assumption; assumption; exact rfl) | (apply zc4 (enc := zo0) (ys := [(⟨x, -1⟩ : Srt.Fd)]); infer_instance; infer_instance; infer_instance; exact rfl; exact zl0; exact zG8; exact rfl; exact rfl; exact rfl; assumption; exact rL_; (exact fun w hw => SV.lit [(⟨x, -1⟩ : Srt.Fd)] zl0 hw (by exact aT_) rfl rfl (by decide)); (first | decide | (constructor <;> (try simp only [List.length_cons, List.length_nil]) <;> omega) | (constructor <;> simp <;> omega)); intro a_ cp_ N_ hO_; have oN_ := hO_.own; (try simp only [List.nil_append, List.append_assoc] at hO_); (try simp only [List.append_eq, List.append_assoc, List.cons_append, List.nil_append])) | ((first | apply w9 | apply y8 | apply x8 | apply p4 | apply n0); exact rfl; exact rfl) | (apply w7; first | refine u9 (h := ?_) | refine y9 (h := ?_) | refine w8 (h := ?_) | refine q6 (h := ?_) | refine q0 (h := ?_)) | ((first | apply p3 | apply p0); exact rfl; exact rfl; exact rfl) | (apply zd5; exact rfl; exact rfl) | (apply j0; exact rfl; exact rfl; exact rfl; (constructor <;> omega)) | (apply n8; exact rfl; exact tT_; exact rfl; exact rfl) | ((first | apply o7 | apply c8); exact rfl; intro _) | (apply q7; first | refine q8 (h := ?_) | refine q9 (h := ?_)) | (apply g7; first | refine a8 (h := ?_)) | (apply m9; refine l9 (h := fun _ => ?_)) | (apply m8; infer_instance; infer_instance; exact rfl; exact rfl; (first | exact rfl | omega); exact rfl; (first | assumption | omega | decide)) | ((first | apply k9); exact rfl; exact gG_) | ((first | apply s9 | apply x9 | apply z8 | apply s7 | apply s8 | apply w4 | apply z9 | apply w5)) | (apply v9; exact rfl; exact fF_) | ((first | apply w6 | apply z6 | apply z0 | apply p5 | apply y0 | apply z7)))
            refine o0 (i + 1, (a_, cp_), N_) ⟨by dsimp only; omega, by dsimp only; rw [hsn2]; exact hO_⟩ (by dsimp only; omega) ?_ ?_
            · dsimp only; rw [hsn2]; exact fS_
            · exact hS_
      · rw [if_neg hin] at hfo hux
        have hsn2 := hsnoc sk hfo
        rcases hcase with hs1 | ⟨hs1, rfl⟩
        all_goals
          as_aux_lemma =>
            repeat' (first | (apply v8; exact rfl; exact dT_) | ((apply zt6 (κ := kI) (ν := kI) (k := x) (v := st)); infer_instance; infer_instance; exact rfl; exact rfl; exact kN_; assumption; assumption; exact rfl) | ((apply zv1 (κ := kI) (ν := kI) (k := x)); infer_instance; infer_instance; infer_instance; exact rfl; exact rfl; exact kN_; assumption; exact rfl) | ((apply zr0 (κ := kI) (ν := kI) (k := st) (v := sk)); infer_instance; infer_instance; exact rfl; exact rfl; exact kN_; assumption; assumption; exact rfl) | ((apply zr0 (κ := kI) (ν := kI) (k := 0) (v := sk)); infer_instance; infer_instance; exact rfl; exact rfl; exact kN_; assumption; assumption; exact rfl) | ((apply zv1 (κ := kI) (ν := vB) (k := x)); infer_instance; infer_instance; infer_instance; exact rfl; exact rfl; exact kN_; assumption; exact rfl) | (apply zc4 (enc := zo0) (ys := [(⟨x, sk⟩ : Srt.Fd)]); infer_instance; infer_instance; infer_instance; exact rfl; exact zl0; exact zG8; exact rfl; exact rfl; exact rfl; assumption; exact rL_; (exact fun w hw => SV.lit [(⟨x, sk⟩ : Srt.Fd)] zl0 hw (by exact aT_) rfl rfl (by decide)); (first | decide | (constructor <;> (try simp only [List.length_cons, List.length_nil]) <;> omega) | (constructor <;> simp <;> omega)); intro a_ cp_ N_ hO_; have oN_ := hO_.own; (try simp only [List.nil_append, List.append_assoc] at hO_); (try simp only [List.append_eq, List.append_assoc, List.cons_append, List.nil_append])) | ((first | apply w9 | apply y8 | apply x8 | apply p4 | apply n0); exact rfl; exact rfl) | (apply w7; first | refine u9 (h := ?_) | refine y9 (h := ?_) | refine w8 (h := ?_) | refine q6 (h := ?_) | refine q0 (h := ?_)) | ((first | apply p3 | apply p0); exact rfl; exact rfl; exact rfl) | (apply zd5; exact rfl; exact rfl) | (apply j0; exact rfl; exact rfl; exact rfl; (constructor <;> omega)) | (apply n8; exact rfl; exact tT_; exact rfl; exact rfl) | ((first | apply o7 | apply c8); exact rfl; intro _) | (apply q7; first | refine q8 (h := ?_) | refine q9 (h := ?_)) | (apply g7; first | refine a8 (h := ?_)) | (apply m9; refine l9 (h := fun _ => ?_)) | (apply m8; infer_instance; infer_instance; exact rfl; exact rfl; (first | exact rfl | omega); exact rfl; (first | assumption | omega | decide)) | ((first | apply k9); exact rfl; exact gG_) | ((first | apply s9 | apply x9 | apply z8 | apply s7 | apply s8 | apply w4 | apply z9 | apply w5)) | (apply v8; exact rfl; exact tT_) | ((first | apply w6 | apply z6 | apply z0 | apply p5 | apply y0 | apply z7)))
            refine o0 (i + 1, (a_, cp_), N_) ⟨by dsimp only; omega, by dsimp only; rw [hsn2]; exact hO_⟩ (by dsimp only; omega) ?_ ?_
            · dsimp only; rw [hsn2]; exact fS_
            · exact hS_
  obtain rfl : i = items.length := by omega
  rw [List.take_length] at hO ⊢
  have e5 : (items.map (Plt.zb9 stops y)).length = items.length := List.length_map ..
  rw [e5] at hO ⊢
  repeat' (first | (apply v9; exact rfl; exact dF_) | ((first | apply w9 | apply y8 | apply x8 | apply p4 | apply n0); exact rfl; exact rfl) | ((first | apply p3 | apply p0); exact rfl; exact rfl; exact rfl) | ((first | apply s9 | apply x9 | apply z8 | apply s7 | apply s8 | apply w4 | apply z9 | apply w5)) | ((first | apply w6 | apply z6 | apply z0 | apply p5 | apply y0 | apply z7)))
  apply p8; apply zb0 Try.results57; exact rV_; intro w' hw
  exact ⟨_, NF, rfl, ⟨af, cf, rfl, hO, oF⟩, hw.sub (by exact hS_), oF⟩
end Go.Proofs.Ytdahckhlfldkkaa
namespace Go.Sx.Plt
theorem zt8 {V : Type} (id i n : Int) : ∀ (l : List V) (k : Nat) (m : List ((Int × Int) × V)), asF (i, n) (zf1 id k l m) = if i = id ∧ (k : Int) ≤ n ∧ n < k + l.length then l[(n - k).toNat]? else asF (i, n) m
  | [], k, m => by
    rw [zf1, if_neg]
    rintro ⟨_, h1, h2⟩
    simp at h2; omega
  | a :: r, k, m => by
    rw [zf1, zt8 id i n r (k + 1) _, zj9]
    by_cases hi : i = id
    · subst hi
      by_cases h1 : (k : Int) = n
      · subst h1
        rw [if_neg (by rintro ⟨_, h, _⟩; omega), if_pos rfl, if_pos ⟨rfl, by omega, by simp; omega⟩]
        simp
      · have hne : ¬ ((i, (k : Int)) = (i, n)) := fun h => h1 (Prod.mk.inj h).2
        rw [if_neg hne]
        by_cases h2 : ((k + 1 : Nat) : Int) ≤ n ∧ n < ((k + 1 : Nat) : Int) + r.length
        · rw [if_pos ⟨rfl, h2⟩, if_pos ⟨rfl, by omega, by rw [List.length_cons]; omega⟩]
          rw [show (n - (k : Int)).toNat = (n - ((k + 1 : Nat) : Int)).toNat + 1 from by omega, List.getElem?_cons_succ]
        · rw [if_neg (fun h => h2 h.2), if_neg (by rintro ⟨_, h3, h4⟩; rw [List.length_cons] at h4; omega)]
    · rw [if_neg (fun h => hi h.1), if_neg (fun h => hi (Prod.mk.inj h).1.symm), if_neg (fun h => hi h.1)]
theorem zm7 {V : Type} (id : Int) : ∀ (l : List V) (k : Nat) (m : List ((Int × Int) × V)), (m.map Prod.fst).Nodup → ((zf1 id k l m).map Prod.fst).Nodup
  | [], _, _, h => h
  | a :: r, k, m, h => by rw [zf1]; exact zm7 id r (k + 1) _ (zg8 h)
theorem zI4 {V : Type} (id : Int) (a : V) : ∀ (l : List V) (k : Nat) (m : List ((Int × Int) × V)), zf1 id k (l ++ [a]) m = ze8 (id, ((k + l.length : Nat) : Int)) a (zf1 id k l m)
  | [], k, m => by simp [zf1]
  | b :: r, k, m => by
    rw [List.cons_append, zf1, zf1, zI4 id a r (k + 1) _, List.length_cons]
    rw [show k + 1 + r.length = k + (r.length + 1) from by omega]
end Go.Sx.Plt
namespace Go.Proofs.Ytdahckhlfldkkaa
open Go Go.Sx Go.RowKit
attribute [local irreducible] WL WC WQ WR WB WF QB St Exit.then Exit.inBlock Exit.noGoto bodyPost roundPost zc1 YR RG BM Calls B zc7 ze3
structure RD where
  pass : Int
  start : Int
  fin : Int
  items : SD
  slices : SD
  stk : SD
  sw : SD
  ov : SD
  rj : SD
  ev : SD
def zG9 (d : RD) : List Value := [.int .i64 d.pass, .int .i64 d.start, .int .i64 d.fin, sdV d.items, sdV d.slices, sdV d.stk, sdV d.sw, sdV d.ov, sdV d.rj, sdV d.ev]
theorem zp2 : ∀ x, (zG9 x).length = 10 := fun _ => rfl
theorem zV5 : ∀ x, (zG9 x).all (·.oneCell') = true := fun _ => rfl
def zA5 (d : RD) : Value := .agg #[.int .i64 d.pass, .int .i64 d.start, .int .i64 d.fin, sdV d.items, sdV d.slices, sdV d.stk, sdV d.sw, sdV d.ov, sdV d.rj, sdV d.ev]
structure RunV (w : World) (d : RD) (r : Plt.Run) : Prop where
  pass : d.pass = r.pass
  start : d.start = r.start
  fin : d.fin = r.fin
  items : SV w 1 encI (sdV d.items) r.items
  slices : SV w 3 zj8 (sdV d.slices) (Plt.zd6 r.pass r.slices)
  stk : ∃ ss, SV w 1 encS (sdV d.stk) ss ∧ SL w 1 encI ss r.res.stackers
  ov : SV w 1 encI (sdV d.ov) r.res.over
  rj : SV w 1 encI (sdV d.rj) r.res.rej
  sw : SV w 1 encI (sdV d.sw) r.res.swept
  ev : SV w 3 zp1 (sdV d.ev) r.res.evs
theorem RunV.keep {w0 w : World} {L : List Ent} {d : RD} {r : Plt.Run} (h : RunV w0 d r) (hw : Rep w0 w L) (ho : AO L) : RunV w d r :=
  ⟨h.pass, h.start, h.fin, h.items.keep hw ho, h.slices.keep hw ho, by obtain ⟨ss, h1, h2⟩ := h.stk; exact ⟨ss, h1.keep hw ho, h2.keep hw ho⟩, h.ov.keep hw ho, h.rj.keep hw ho, h.sw.keep hw ho, h.ev.keep hw ho⟩
def nsd : SD := (none, 0, 0)
def yn9 (id : Int) : RD := ⟨id, -1, -1, nsd, nsd, nsd, nsd, nsd, nsd, nsd⟩
theorem RunV.missed (w : World) (y : Plt.za3) : RunV w (yn9 y.id) (Plt.missed y) := by
  refine ⟨rfl, rfl, rfl, SV.nil, SV.nil, ⟨[], SV.nil, ⟨rfl, fun i s xs h => by simp at h⟩⟩, SV.nil, SV.nil, SV.nil, SV.nil⟩
def hrunφ (bh bm bs bi be bf : Nat) (ml : List (Int × MD)) (stops : List (Int × Int)) (NX : List Ent) (R : Plt.Run × Plt.Hall) (v : Value) (G : List Ent) : Prop :=
  ∃ d its NW, v = zA5 d ∧ G = zq7 bh bm bs bi be bf ml stops its R.2.ends R.2.free ++ (NW ++ NX) ∧ (∀ x ∈ NW, x.own = true) ∧ (its.map Prod.fst).Nodup ∧ Shw NW (fun w => RunV w d R.1) ∧
    (∀ s sd, asF s its = some sd → Shw (NW ++ NX) (fun w => SV w 1 encI (sdV sd) (R.2.row s))) ∧ ∀ s, asF s its = none → R.2.row s = []
theorem hrunφ.missed {bh bm bs bi be bf : Nat} {ml : List (Int × MD)} {stops : List (Int × Int)} {NX : List Ent} {h : Plt.Hall} {its : List ((Int × Int) × SD)} {y : Plt.za3} (hn : (its.map Prod.fst).Nodup) (hrow : ∀ s sd, asF s its = some sd → Shw NX (fun w => SV w 1 encI (sdV sd) (h.row s))) (hrow0 : ∀ s, asF s its = none → h.row s = []) :
    hrunφ bh bm bs bi be bf ml stops NX (Plt.missed y, h) (zA5 (yn9 y.id)) (zq7 bh bm bs bi be bf ml stops its h.ends h.free ++ NX) :=
  ⟨_, its, [], rfl, rfl, by simp, hn, fun _ w _ _ _ _ => RunV.missed w y, hrow, hrow0⟩
end Go.Proofs.Ytdahckhlfldkkaa
