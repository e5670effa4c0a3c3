/-
  The given statement PlantSmall: the law returns true (it takes no arguments): for the plant of the chapter with one number replaced, plant and the reference answer alike. Conditions: none.
-/
import Derived.Test.YtdahckhlfldkkaaZPSmall3
import Derived.Test.YtdahckhlfldkkaaZPSmall15
import Derived.Test.YtdahckhlfldkkaaZPSmall13
import Derived.Test.YtdahckhlfldkkaaZPSmall9
import Derived.Test.YtdahckhlfldkkaaZPSmall2
import Derived.SizedLaws
set_option linter.unusedSimpArgs false
set_option linter.unusedVariables false
set_option linter.unusedSectionVars false
namespace Go.Proofs.Ytdahckhlfldkkaa
open Go Go.Sx Go.RowKit
attribute [local irreducible] WL WC WQ WR WB WF QB St Exit.then Exit.inBlock Exit.noGoto bodyPost roundPost zc1 YR RG BM Calls B zc7 ze3
def zF7 (a : Addr) : List Value := [.pointer (some a)]
theorem zj2 : ∀ x, (zF7 x).length = 1 := fun _ => rfl
theorem zw2 : ∀ x, (zF7 x).all (·.oneCell') = true := fun _ => rfl
def pl (s : SD) : Addr := s.1.getD ⟨0, 0, none⟩
def zZ8 (s : SD) (i : Nat) (d : MD) : List Addr :=
  [⟨(pl s).block, (pl s).off + i * 5 + 0, none⟩, ⟨(pl s).block, (pl s).off + i * 5 + 1, none⟩, ⟨(pl s).block, (pl s).off + i * 5 + 2, none⟩, ⟨(pl d.caps).block, (pl d.caps).off + 0 * 1, none⟩, ⟨(pl d.caps).block, (pl d.caps).off + 1 * 1, none⟩,
   ⟨(pl d.shifts).block, (pl d.shifts).off + 0 * 2 + 0, none⟩, ⟨(pl d.shifts).block, (pl d.shifts).off + 0 * 2 + 1, none⟩, ⟨(pl d.shifts).block, (pl d.shifts).off + 1 * 2 + 0, none⟩, ⟨(pl d.shifts).block, (pl d.shifts).off + 1 * 2 + 1, none⟩]
def ye2 (s : SD) (k : Nat) : List Addr := [⟨(pl s).block, (pl s).off + k * 3 + 0, none⟩, ⟨(pl s).block, (pl s).off + k * 3 + 1, none⟩, ⟨(pl s).block, (pl s).off + k * 3 + 2, none⟩]
def yq9 (s : SD) (k : Nat) : List Addr := [⟨(pl s).block, (pl s).off + k * 6 + 0, none⟩, ⟨(pl s).block, (pl s).off + k * 6 + 1, none⟩, ⟨(pl s).block, (pl s).off + k * 6 + 2, none⟩]
def zH9 (s : SD) (k : Nat) : List Addr := [⟨(pl s).block, (pl s).off + k * 2 + 0, none⟩, ⟨(pl s).block, (pl s).off + k * 2 + 1, none⟩]
def yw7 (s : SD) : List Addr := [⟨(pl s).block, (pl s).off + 0 * 1, none⟩]
def zC5 (f : Nat → List Addr) : Nat → List Addr
  | 0 => []
  | n + 1 => zC5 f n ++ f n
def nums {α : Type} (f : Nat → α → List Addr) : Nat → List α → List Addr
  | _, [] => []
  | i, d :: l => f i d ++ nums f (i + 1) l
theorem zW5 {α : Type} {f : Nat → α → List Addr} {d : α} : ∀ {l : List α} {i : Nat}, nums f i (l ++ [d]) = nums f i l ++ f (i + l.length) d
  | [], i => by simp [nums]
  | x :: l, i => by rw [List.cons_append, nums, nums, zW5, List.append_assoc, List.length_cons, show i + 1 + l.length = i + (l.length + 1) by omega]
theorem zW6 {α : Type} {f : Nat → α → List Addr} {d : α} {l : List α} {i : Nat} (h : l[i]? = some d) : nums f 0 (l.take (i + 1)) = nums f 0 (l.take i) ++ f i d := by
  rw [take_snoc h, zW5, List.length_take, Nat.zero_add, Nat.min_eq_left (Nat.le_of_lt (List.getElem?_eq_some_iff.1 h).1)]
def yw8 (s : SD) (i : Nat) (d : PD) : List Addr := yq9 s i ++ zC5 (zH9 d.src) d.src.2.1 ++ zC5 (zH9 d.table) d.table.2.1 ++ yw7 d.unread
def zx6 (q : PlD) : List Addr := nums (zZ8 q.m) 0 q.ds ++ zC5 (ye2 q.i) q.i.2.1 ++ nums (yw8 q.p) 0 q.ys
set_option maxHeartbeats 8000000 in
set_option maxRecDepth 100000 in
theorem zT8 {q : PlD} {p : Plt.g8} {b0 : Nat} (hf : Plt.Few p) (hm2 : ∀ m ∈ p.ms, 2 ≤ m.caps.length ∧ 2 ≤ m.shifts.length) (hu1 : ∀ y ∈ p.passes, 1 ≤ y.unread.length) (w : World) (h : PlV w q p)
    (hb0 : w.heap[b0]? = some (Ce [sdV q.m, sdV q.i, sdV q.p] 26)) :
    Calls Try.prog 12 #[ptr b0] w fun e w' => ∃ v N, e = .returned v ∧ (∃ a c, v = .slice a (zx6 q).length c ∧ OW 53 1 zF7 (.slice a (zx6 q).length c) (zx6 q) N) ∧ Rep w w' N ∧ ∀ x ∈ N, x.own = true := by
  obtain ⟨a1, c1, a2, c2, a3, c3, ds, ys, rfl⟩ := h.eqs
  obtain ⟨hM, hI, hP, lm, lp, hmach, hpass⟩ := h
  dsimp only [sdV, zx6] at hM hI hP lm lp hmach hpass hb0 ⊢
  obtain ⟨_, _, e1, hc1, hop1⟩ := hM.open
  simp only [Value.slice.injEq] at e1
  obtain ⟨rfl, -, rfl⟩ := e1
  obtain ⟨_, _, e1, hc2, hop2⟩ := hI.open
  simp only [Value.slice.injEq] at e1
  obtain ⟨rfl, -, rfl⟩ := e1
  obtain ⟨_, _, e1, hc3, hop3⟩ := hP.open
  simp only [Value.slice.injEq] at e1
  obtain ⟨rfl, -, rfl⟩ := e1
  rw [lm] at hc1 hop1
  rw [lp] at hc3 hop3
  have hLm := hf.ms
  have hLi := hf.items
  have hLp := hf.passes
  refine zd2 Try.func12 rfl Try.ntmps12 rfl (Rep.start w) ?_
  repeat' (first | ((first | apply w9 | apply y8 | apply x8 | apply n0); exact rfl; exact rfl) | (apply w7; first | refine u9 (h := ?_) | refine y9 (h := ?_) | refine w8 (h := ?_) | refine q6 (h := ?_) | refine q0 (h := ?_)) | (apply o9; infer_instance; exact rfl; exact rfl) | ((first | apply s9 | apply x9 | apply z8 | apply s7 | apply s8 | apply w4 | apply z9 | apply w5)) | ((first | apply w6 | apply z6 | apply z0 | apply p5 | apply y0 | apply z7)))
  apply j9 (σ := Nat × List Addr × (Option Addr × Nat) × List Ent) (Fs := fun t => [(16, .int .i64 t.1), (15, .int .i64 p.ms.length), (3, .slice t.2.2.1.1 t.2.1.length t.2.2.1.2), (0, ptr b0)]) (Ls := fun t => t.2.2.2 ++ [])
    (I := fun t => (t.1 ≤ p.ms.length ∧ t.2.1 = nums (zZ8 (a1, p.ms.length, c1)) 0 (ds.take t.1) ∧ t.2.1.length ≤ 9 * t.1) ∧ OW 53 1 zF7 (.slice t.2.2.1.1 t.2.1.length t.2.2.1.2) t.2.1 t.2.2.2)
    (μ := fun t => p.ms.length - t.1) (s0 := (0, [], (none, 0), []))
  · exact ⟨⟨Nat.zero_le _, rfl, Nat.le_refl _⟩, OW.nil⟩
  · exact fS_
  · exact hS_
  rintro ⟨i, ps, ⟨ar, cr⟩, NR⟩ ⟨⟨hi, hps, hpl⟩, hO⟩
  dsimp only at hi hps hpl hO ⊢
  have oR := hO.own
  by_cases hlt : i < p.ms.length
  · obtain ⟨m, hm⟩ : ∃ y, p.ms[i]? = some y := ⟨_, List.getElem?_eq_getElem hlt⟩
    obtain ⟨dm, hdm⟩ : ∃ z, ds[i]? = some z := ⟨_, List.getElem?_eq_getElem (by omega)⟩
    have hMV := hmach i dm m hdm hm
    obtain ⟨s1, o1, s2, o2, rfl⟩ := hMV.eqs
    have hcaps := hMV.caps
    have hshf := hMV.shifts
    dsimp only [sdV] at hcaps hshf
    obtain ⟨hc20, hs20⟩ := hm2 m (List.mem_of_getElem? hm)
    obtain ⟨_, _, e4, hc4, hop4⟩ := hcaps.open
    cases e4
    obtain ⟨_, _, e4, hc5, hop5⟩ := hshf.open
    cases e4
    obtain ⟨bp, op, ccp, ep, fzp, rfl, hkp, hpp⟩ := hop1 (by omega)
    obtain ⟨bc, oc, ccc, ec, fzc, rfl, hkc, hpc⟩ := hop4 (by omega)
    obtain ⟨bs, os, ccs, es, fzs, rfl, hks, hpss⟩ := hop5 (by omega)
    have gy : ∀ jj u, ([.int .i64 m.id, .int .i64 m.sweeps, .int .i64 m.rate, .slice (some ⟨bc, oc, none⟩) m.caps.length o1, .slice (some ⟨bs, os, none⟩) m.shifts.length o2] : List Value)[jj]? = some u → ccp[op + i * 5 + jj]? = some u := hpp.get hdm
    have hnx : ps ++ (zZ8 (some ⟨bp, op, none⟩, p.ms.length, c1) i ⟨m.id, m.sweeps, m.rate, (some ⟨bc, oc, none⟩, m.caps.length, o1), (some ⟨bs, os, none⟩, m.shifts.length, o2)⟩) = nums (zZ8 (some ⟨bp, op, none⟩, p.ms.length, c1)) 0 (ds.take (i + 1)) := by rw [zW6 hdm, hps]
    have hp300 : ps.length ≤ 300 := by omega
    have h9 : (zZ8 (some ⟨bp, op, none⟩, p.ms.length, c1) i ⟨m.id, m.sweeps, m.rate, (some ⟨bc, oc, none⟩, m.caps.length, o1), (some ⟨bs, os, none⟩, m.shifts.length, o2)⟩).length = 9 := rfl
    as_aux_lemma =>
      repeat' (first | (apply v8; exact rfl; exact dT_) | ((apply zc3 (m := 0)); infer_instance; infer_instance; exact rfl; exact rfl; exact rfl; exact rfl; omega) | ((apply zc3 (m := 1)); infer_instance; infer_instance; exact rfl; exact rfl; exact rfl; exact rfl; omega) | (apply zc4 (enc := zF7); infer_instance; infer_instance; infer_instance; exact rfl; exact zj2; exact zw2; exact rfl; exact rfl; exact rfl; assumption; exact rL_; (exact fun w hw => (SV.lit (zZ8 (some ⟨bp, op, none⟩, p.ms.length, c1) i ⟨m.id, m.sweeps, m.rate, (some ⟨bc, oc, none⟩, m.caps.length, o1), (some ⟨bs, os, none⟩, m.shifts.length, o2)⟩) zj2 hw (by exact aT_) rfl rfl (by decide))); (first | decide | (constructor <;> (try simp only [List.length_cons, List.length_nil]) <;> omega) | (constructor <;> simp <;> omega)); intro a_ cp_ N_ hO_; have oN_ := hO_.own; (try simp only [List.nil_append, List.append_assoc] at hO_); (try simp only [List.append_eq, List.append_assoc, List.cons_append, List.nil_append])) | ((first | apply w9 | apply y8 | apply x8 | apply n0); exact rfl; exact rfl) | (apply w7; first | refine u9 (h := ?_) | refine y9 (h := ?_) | refine w8 (h := ?_) | refine q6 (h := ?_) | refine q0 (h := ?_)) | (apply p3; exact rfl; exact rfl; exact rfl) | (apply j0; exact rfl; exact rfl; exact rfl; (constructor <;> omega)) | (apply m8; infer_instance; infer_instance; exact rfl; exact rfl; (first | exact rfl | omega); exact rfl; (first | assumption | omega | decide)) | ((first | apply s9 | apply x9 | apply z8 | apply s7 | apply s8 | apply w4 | apply z9 | apply w5)) | ((first | apply w6 | apply z6 | apply z0 | apply p5 | apply y0 | apply z7)) | ((apply zg0 (id := 6) [] 45); kernel_rfl; kernel_rfl; simp only [List.take_succ_cons, List.take_zero, List.drop_succ_cons, List.drop_zero]) | (apply za6; try simp only [za9, List.cons_append, List.nil_append]) | ((first | apply i9 | apply n9 | apply m5); exact rfl; exact rfl) | (apply zb4; exact rfl; exact rfl) | (apply m0; first | refine k8 (h := ?_) | refine p7 (h := ?_) | refine m6 (h := ?_) | refine d8 (h := ?_) | refine d7 (h := ?_)) | (apply zb1; refine zb5 (h := ?_)) | (apply zd9; refine zf0 (h := fun _ => ?_)))
      refine o0 (i + 1, ps ++ (zZ8 (some ⟨bp, op, none⟩, p.ms.length, c1) i ⟨m.id, m.sweeps, m.rate, (some ⟨bc, oc, none⟩, m.caps.length, o1), (some ⟨bs, os, none⟩, m.shifts.length, o2)⟩), (a_, cp_), N_) ⟨⟨by dsimp only; omega, hnx, by (dsimp only; rw [List.length_append, show (zZ8 (some ⟨bp, op, none⟩, p.ms.length, c1) i ⟨m.id, m.sweeps, m.rate, (some ⟨bc, oc, none⟩, m.caps.length, o1), (some ⟨bs, os, none⟩, m.shifts.length, o2)⟩).length = 9 from rfl]; omega)⟩, hO_⟩ (by dsimp only; omega) ?_ ?_
      · exact fS_
      · (try dsimp only); (try simp only [List.append_assoc, List.cons_append, List.nil_append]); exact hS_
  obtain rfl : i = p.ms.length := by omega
  rw [List.take_of_length_le (by omega)] at hps
  repeat' (first | (apply v9; exact rfl; exact dF_) | ((first | apply w9 | apply y8 | apply x8 | apply n0); exact rfl; exact rfl) | (apply w7; first | refine u9 (h := ?_) | refine y9 (h := ?_) | refine w8 (h := ?_) | refine q6 (h := ?_) | refine q0 (h := ?_)) | (apply p3; exact rfl; exact rfl; exact rfl) | (apply o9; infer_instance; exact rfl; exact rfl) | ((first | apply s9 | apply x9 | apply z8 | apply s7 | apply s8 | apply w4 | apply z9 | apply w5)) | ((first | apply w6 | apply z6 | apply z0 | apply p5 | apply y0 | apply z7)))
  apply j9 (σ := Nat × List Addr × (Option Addr × Nat) × List Ent) (Fs := fun t => [(77, .int .i64 t.1), (76, .int .i64 p.items.length), (3, .slice t.2.2.1.1 t.2.1.length t.2.2.1.2), (0, ptr b0)]) (Ls := fun t => t.2.2.2 ++ [])
    (I := fun t => (t.1 ≤ p.items.length ∧ t.2.1 = ps ++ zC5 (ye2 (a2, p.items.length, c2)) t.1 ∧ t.2.1.length ≤ 300 + 3 * t.1) ∧ OW 53 1 zF7 (.slice t.2.2.1.1 t.2.1.length t.2.2.1.2) t.2.1 t.2.2.2)
    (μ := fun t => p.items.length - t.1) (s0 := (0, ps, (ar, cr), NR))
  · exact ⟨⟨Nat.zero_le _, by simp [zC5], by dsimp only; omega⟩, hO⟩
  · exact fS_
  · exact hS_
  rintro ⟨k, qs, ⟨ai, ci⟩, NI⟩ ⟨⟨hk, hqs, hql⟩, hOI⟩
  dsimp only at hk hqs hql hOI ⊢
  have oI := hOI.own
  by_cases hkl : k < p.items.length
  · obtain ⟨bz, oz, ccz, ez, fzz, rfl, hkz, hpz⟩ := hop2 (by omega)
    have hnx : qs ++ (ye2 (some ⟨bz, oz, none⟩, p.items.length, c2) k) = ps ++ zC5 (ye2 (some ⟨bz, oz, none⟩, p.items.length, c2)) (k + 1) := by rw [zC5, hqs, List.append_assoc]
    have hp300 : qs.length ≤ 1500 := by omega
    have h9 : (ye2 (some ⟨bz, oz, none⟩, p.items.length, c2) k).length = 3 := rfl
    as_aux_lemma =>
      repeat' (first | (apply v8; exact rfl; exact dT_) | (apply zc4 (enc := zF7); infer_instance; infer_instance; infer_instance; exact rfl; exact zj2; exact zw2; exact rfl; exact rfl; exact rfl; assumption; exact rL_; (exact fun w hw => (SV.lit (ye2 (some ⟨bz, oz, none⟩, p.items.length, c2) k) zj2 hw (by exact aT_) rfl rfl (by decide))); (first | decide | (constructor <;> (try simp only [List.length_cons, List.length_nil]) <;> omega) | (constructor <;> simp <;> omega)); intro a_ cp_ N_ hO_; have oN_ := hO_.own; (try simp only [List.nil_append, List.append_assoc] at hO_); (try simp only [List.append_eq, List.append_assoc, List.cons_append, List.nil_append])) | ((first | apply w9 | apply y8 | apply x8 | apply n0); exact rfl; exact rfl) | (apply p3; exact rfl; exact rfl; exact rfl) | (apply j0; exact rfl; exact rfl; exact rfl; (constructor <;> omega)) | ((first | apply s9 | apply x9 | apply z8 | apply s7 | apply s8 | apply w4 | apply z9 | apply w5)) | ((first | apply w6 | apply z6 | apply z0 | apply p5 | apply y0 | apply z7)) | ((apply zg0 (id := 11) [] 23); kernel_rfl; kernel_rfl; simp only [List.take_succ_cons, List.take_zero, List.drop_succ_cons, List.drop_zero]) | (apply za6; try simp only [za9, List.cons_append, List.nil_append]) | ((first | apply i9 | apply n9 | apply m5); exact rfl; exact rfl) | (apply zb4; exact rfl; exact rfl) | (apply m0; first | refine k8 (h := ?_) | refine p7 (h := ?_) | refine m6 (h := ?_) | refine d8 (h := ?_) | refine d7 (h := ?_)) | (apply zb1; refine zb5 (h := ?_)) | (apply zc3; infer_instance; infer_instance; exact rfl; exact rfl; (first | exact rfl | omega); exact rfl; (first | assumption | omega | decide)) | (apply zd9; refine zf0 (h := fun _ => ?_)))
      refine o0 (k + 1, qs ++ (ye2 (some ⟨bz, oz, none⟩, p.items.length, c2) k), (a_, cp_), N_) ⟨⟨by dsimp only; omega, hnx, by (dsimp only; rw [List.length_append, h9]; omega)⟩, hO_⟩ (by dsimp only; omega) ?_ ?_
      · exact fS_
      · (try dsimp only); (try simp only [List.append_assoc, List.cons_append, List.nil_append]); exact hS_
  obtain rfl : k = p.items.length := by omega
  have hq1200 : qs.length ≤ 1200 := by omega
  clear hql
  repeat' (first | (apply v9; exact rfl; exact dF_) | ((first | apply w9 | apply y8 | apply x8 | apply n0); exact rfl; exact rfl) | (apply w7; first | refine u9 (h := ?_) | refine y9 (h := ?_) | refine w8 (h := ?_) | refine q6 (h := ?_) | refine q0 (h := ?_)) | (apply p3; exact rfl; exact rfl; exact rfl) | (apply o9; infer_instance; exact rfl; exact rfl) | ((first | apply s9 | apply x9 | apply z8 | apply s7 | apply s8 | apply w4 | apply z9 | apply w5)) | ((first | apply w6 | apply z6 | apply z0 | apply p5 | apply y0 | apply z7)))
  apply j9 (σ := Nat × List Addr × (Option Addr × Nat) × List Ent) (Fs := fun t => [(110, .int .i64 t.1), (109, .int .i64 p.passes.length), (3, .slice t.2.2.1.1 t.2.1.length t.2.2.1.2), (0, ptr b0)]) (Ls := fun t => t.2.2.2 ++ [])
    (I := fun t => (t.1 ≤ p.passes.length ∧ t.2.1 = qs ++ nums (yw8 (a3, p.passes.length, c3)) 0 (ys.take t.1) ∧ t.2.1.length ≤ 1200 + 1204 * t.1) ∧ OW 53 1 zF7 (.slice t.2.2.1.1 t.2.1.length t.2.2.1.2) t.2.1 t.2.2.2)
    (μ := fun t => p.passes.length - t.1) (s0 := (0, qs, (ai, ci), NI))
  · exact ⟨⟨Nat.zero_le _, by simp [nums], by dsimp only; omega⟩, hOI⟩
  · exact fS_
  · exact hS_
  rintro ⟨j, rs, ⟨aj, cj⟩, NJ⟩ ⟨⟨hj, hrs, hrl⟩, hOJ⟩
  dsimp only at hj hrs hrl hOJ ⊢
  have oJ := hOJ.own
  by_cases hlt2 : j < p.passes.length
  · obtain ⟨y, hy⟩ : ∃ y, p.passes[j]? = some y := ⟨_, List.getElem?_eq_getElem hlt2⟩
    obtain ⟨dy, hdy⟩ : ∃ z, ys[j]? = some z := ⟨_, List.getElem?_eq_getElem (by omega)⟩
    have hPV := hpass j dy y hdy hy
    obtain ⟨s1, o1, s2, o2, s3, o3, rfl⟩ := hPV.eqs
    have hsrc := hPV.src
    have htab := hPV.table
    have hunr := hPV.unread
    dsimp only [sdV] at hsrc htab hunr
    obtain ⟨_, _, e4, hc4, hop4⟩ := hsrc.open
    cases e4
    obtain ⟨_, _, e4, hc5, hop5⟩ := htab.open
    cases e4
    obtain ⟨_, _, e4, hc6, hop6⟩ := hunr.open
    cases e4
    have hu := hu1 y (List.mem_of_getElem? hy)
    obtain ⟨hl1, hl2, hl3⟩ := hf.pass y (List.mem_of_getElem? hy)
    obtain ⟨bp, op, ccp, ep, fzp, rfl, hkp, hpp⟩ := hop3 (by omega)
    obtain ⟨bu, ou, ccu, eu, fzu, rfl, hku, hpu⟩ := hop6 (by omega)
    have gy : ∀ jj u, ([.int .i64 y.id, .int .i64 y.mach, .int .i64 y.rel, .slice s1 y.src.length o1, .slice s2 y.table.length o2, .slice (some ⟨bu, ou, none⟩) y.unread.length o3] : List Value)[jj]? = some u → ccp[op + j * 6 + jj]? = some u := hpp.get hdy
    have hr1 : rs.length ≤ 90000 := by omega
    have h9 : (yq9 (some ⟨bp, op, none⟩, p.passes.length, c3) j).length = 3 := rfl
    repeat' (first | (apply v8; exact rfl; exact dT_) | (apply zc4 (enc := zF7); infer_instance; infer_instance; infer_instance; exact rfl; exact zj2; exact zw2; exact rfl; exact rfl; exact rfl; assumption; exact rL_; (exact fun w hw => (SV.lit (yq9 (some ⟨bp, op, none⟩, p.passes.length, c3) j) zj2 hw (by exact aT_) rfl rfl (by decide))); (first | decide | (constructor <;> (try simp only [List.length_cons, List.length_nil]) <;> omega) | (constructor <;> simp <;> omega)); intro a_ cp_ N_ hO_; have oN_ := hO_.own; (try simp only [List.nil_append, List.append_assoc] at hO_); (try simp only [List.append_eq, List.append_assoc, List.cons_append, List.nil_append])) | ((first | apply w9 | apply y8 | apply x8 | apply n0); exact rfl; exact rfl) | (apply za7; exact rfl; exact rfl) | (apply w7; first | refine u9 (h := ?_) | refine y9 (h := ?_) | refine w8 (h := ?_) | refine q6 (h := ?_) | refine q0 (h := ?_)) | (apply p3; exact rfl; exact rfl; exact rfl) | (apply o9; infer_instance; exact rfl; exact rfl) | (apply m8; infer_instance; infer_instance; exact rfl; exact rfl; (first | exact rfl | omega); exact rfl; (first | assumption | omega | decide)) | ((first | apply s9 | apply x9 | apply z8 | apply s7 | apply s8 | apply w4 | apply z9 | apply w5)) | ((first | apply w6 | apply z6 | apply z0 | apply p5 | apply y0 | apply z7)) | ((apply zg0 (id := 17) [] 11); kernel_rfl; kernel_rfl; simp only [List.take_succ_cons, List.take_zero, List.drop_succ_cons, List.drop_zero]) | (apply za6; try simp only [za9, List.cons_append, List.nil_append]) | ((first | apply i9 | apply n9 | apply m5); exact rfl; exact rfl) | (apply zb4; exact rfl; exact rfl) | (apply zb1; refine zb5 (h := ?_)) | (apply zd9; refine zf0 (h := fun _ => ?_)))
    rename_i hN1
    apply j9 (σ := Nat × List Addr × (Option Addr × Nat) × List Ent) (Fs := fun t => [(136, .int .i64 t.1), (135, .int .i64 y.src.length), (8, .pointer (some ⟨bp, op + j * 6, none⟩)), (110, .int .i64 j), (109, .int .i64 p.passes.length), (3, .slice t.2.2.1.1 t.2.1.length t.2.2.1.2), (0, ptr b0)]) (Ls := fun t => t.2.2.2 ++ [])
      (I := fun t => (t.1 ≤ y.src.length ∧ t.2.1 = (rs ++ (yq9 (some ⟨bp, op, none⟩, p.passes.length, c3) j)) ++ zC5 (zH9 (s1, y.src.length, o1)) t.1 ∧ t.2.1.length ≤ rs.length + 3 + 2 * t.1) ∧ OW 53 1 zF7 (.slice t.2.2.1.1 t.2.1.length t.2.2.1.2) t.2.1 t.2.2.2)
      (μ := fun t => y.src.length - t.1) (s0 := (0, rs ++ (yq9 (some ⟨bp, op, none⟩, p.passes.length, c3) j), (a_, cp_), N_))
    · exact ⟨⟨Nat.zero_le _, by simp [zC5], by (dsimp only; rw [List.length_append, h9]; omega)⟩, hO_⟩
    · exact fS_
    · exact hS_
    clear hOJ
    rintro ⟨k, us, ⟨ak, ck⟩, NK⟩ ⟨⟨hk, hus, hul⟩, hOK⟩
    dsimp only at hk hus hul hOK ⊢
    have oK := hOK.own
    by_cases hkl : k < y.src.length
    · obtain ⟨bz, oz, ccz, ez, fzz, rfl, hkz, hpz⟩ := hop4 (by omega)
      have hnx : us ++ (zH9 (some ⟨bz, oz, none⟩, y.src.length, o1) k) = (rs ++ (yq9 (some ⟨bp, op, none⟩, p.passes.length, c3) j)) ++ zC5 (zH9 (some ⟨bz, oz, none⟩, y.src.length, o1)) (k + 1) := by rw [zC5, hus]; simp only [List.append_assoc]
      have hp300 : us.length ≤ 100000 := by omega
      have h9 : (zH9 (some ⟨bz, oz, none⟩, y.src.length, o1) k).length = 2 := rfl
      as_aux_lemma =>
        repeat' (first | (apply v8; exact rfl; exact dT_) | (apply zc4 (enc := zF7); infer_instance; infer_instance; infer_instance; exact rfl; exact zj2; exact zw2; exact rfl; exact rfl; exact rfl; assumption; exact rL_; (exact fun w hw => (SV.lit (zH9 (some ⟨bz, oz, none⟩, y.src.length, o1) k) zj2 hw (by exact aT_) rfl rfl (by decide))); (first | decide | (constructor <;> (try simp only [List.length_cons, List.length_nil]) <;> omega) | (constructor <;> simp <;> omega)); intro a_ cp_ N_ hO_; have oN_ := hO_.own; (try simp only [List.nil_append, List.append_assoc] at hO_); (try simp only [List.append_eq, List.append_assoc, List.cons_append, List.nil_append])) | ((first | apply w9 | apply y8 | apply x8 | apply n0); exact rfl; exact rfl) | (apply p3; exact rfl; exact rfl; exact rfl) | (apply j0; exact rfl; exact rfl; exact rfl; (constructor <;> omega)) | ((first | apply s9 | apply x9 | apply z8 | apply s7 | apply s8 | apply w4 | apply z9 | apply w5)) | ((first | apply w6 | apply z6 | apply z0 | apply p5 | apply y0 | apply z7)) | ((apply zg0 (id := 21) [] 16); kernel_rfl; kernel_rfl; simp only [List.take_succ_cons, List.take_zero, List.drop_succ_cons, List.drop_zero]) | (apply za6; try simp only [za9, List.cons_append, List.nil_append]) | ((first | apply i9 | apply n9 | apply m5); exact rfl; exact rfl) | (apply zb4; exact rfl; exact rfl) | (apply m0; first | refine k8 (h := ?_) | refine p7 (h := ?_) | refine m6 (h := ?_) | refine d8 (h := ?_) | refine d7 (h := ?_)) | (apply zb1; refine zb5 (h := ?_)) | (apply zc3; infer_instance; infer_instance; exact rfl; exact rfl; (first | exact rfl | omega); exact rfl; (first | assumption | omega | decide)) | (apply zd9; refine zf0 (h := fun _ => ?_)))
        refine o0 (k + 1, us ++ (zH9 (some ⟨bz, oz, none⟩, y.src.length, o1) k), (a_, cp_), N_) ⟨⟨by dsimp only; omega, by (dsimp only; first | exact hnx | simpa only [List.append_assoc] using hnx), by (dsimp only; rw [List.length_append, h9]; omega)⟩, hO_⟩ (by dsimp only; omega) ?_ ?_
        · exact fS_
        · (try dsimp only); (try simp only [List.append_assoc, List.cons_append, List.nil_append]); exact hS_
    obtain rfl : k = y.src.length := by omega
    have hul1 : us.length ≤ rs.length + 603 := by omega
    clear hul
    repeat' (first | (apply v9; exact rfl; exact dF_) | ((first | apply w9 | apply y8 | apply x8 | apply n0); exact rfl; exact rfl) | (apply za7; exact rfl; exact rfl) | (apply w7; first | refine u9 (h := ?_) | refine y9 (h := ?_) | refine w8 (h := ?_) | refine q6 (h := ?_) | refine q0 (h := ?_)) | (apply p3; exact rfl; exact rfl; exact rfl) | (apply o9; infer_instance; exact rfl; exact rfl) | ((first | apply s9 | apply x9 | apply z8 | apply s7 | apply s8 | apply w4 | apply z9 | apply w5)) | ((first | apply w6 | apply z6 | apply z0 | apply p5 | apply y0 | apply z7)))
    apply j9 (σ := Nat × List Addr × (Option Addr × Nat) × List Ent) (Fs := fun t => [(162, .int .i64 t.1), (161, .int .i64 y.table.length), (8, .pointer (some ⟨bp, op + j * 6, none⟩)), (110, .int .i64 j), (109, .int .i64 p.passes.length), (3, .slice t.2.2.1.1 t.2.1.length t.2.2.1.2), (0, ptr b0)]) (Ls := fun t => t.2.2.2 ++ [])
      (I := fun t => (t.1 ≤ y.table.length ∧ t.2.1 = us ++ zC5 (zH9 (s2, y.table.length, o2)) t.1 ∧ t.2.1.length ≤ rs.length + 603 + 2 * t.1) ∧ OW 53 1 zF7 (.slice t.2.2.1.1 t.2.1.length t.2.2.1.2) t.2.1 t.2.2.2)
      (μ := fun t => y.table.length - t.1) (s0 := (0, us, (ak, ck), NK))
    · exact ⟨⟨Nat.zero_le _, by simp [zC5], by dsimp only; omega⟩, hOK⟩
    · exact fS_
    · exact hS_
    rintro ⟨k, vs, ⟨al, cl⟩, NL⟩ ⟨⟨hk, hvs, hvl⟩, hOL⟩
    dsimp only at hk hvs hvl hOL ⊢
    have oL := hOL.own
    by_cases hkl : k < y.table.length
    · obtain ⟨bz, oz, ccz, ez, fzz, rfl, hkz, hpz⟩ := hop5 (by omega)
      have hnx : vs ++ (zH9 (some ⟨bz, oz, none⟩, y.table.length, o2) k) = us ++ zC5 (zH9 (some ⟨bz, oz, none⟩, y.table.length, o2)) (k + 1) := by rw [zC5, hvs]; simp only [List.append_assoc]
      have hp300 : vs.length ≤ 100000 := by omega
      have h9 : (zH9 (some ⟨bz, oz, none⟩, y.table.length, o2) k).length = 2 := rfl
      as_aux_lemma =>
        repeat' (first | (apply v8; exact rfl; exact dT_) | (apply zc4 (enc := zF7); infer_instance; infer_instance; infer_instance; exact rfl; exact zj2; exact zw2; exact rfl; exact rfl; exact rfl; assumption; exact rL_; (exact fun w hw => (SV.lit (zH9 (some ⟨bz, oz, none⟩, y.table.length, o2) k) zj2 hw (by exact aT_) rfl rfl (by decide))); (first | decide | (constructor <;> (try simp only [List.length_cons, List.length_nil]) <;> omega) | (constructor <;> simp <;> omega)); intro a_ cp_ N_ hO_; have oN_ := hO_.own; (try simp only [List.nil_append, List.append_assoc] at hO_); (try simp only [List.append_eq, List.append_assoc, List.cons_append, List.nil_append])) | ((first | apply w9 | apply y8 | apply x8 | apply n0); exact rfl; exact rfl) | (apply p3; exact rfl; exact rfl; exact rfl) | (apply j0; exact rfl; exact rfl; exact rfl; (constructor <;> omega)) | ((first | apply s9 | apply x9 | apply z8 | apply s7 | apply s8 | apply w4 | apply z9 | apply w5)) | ((first | apply w6 | apply z6 | apply z0 | apply p5 | apply y0 | apply z7)) | ((apply zg0 (id := 26) [] 16); kernel_rfl; kernel_rfl; simp only [List.take_succ_cons, List.take_zero, List.drop_succ_cons, List.drop_zero]) | (apply za6; try simp only [za9, List.cons_append, List.nil_append]) | ((first | apply i9 | apply n9 | apply m5); exact rfl; exact rfl) | (apply zb4; exact rfl; exact rfl) | (apply m0; first | refine k8 (h := ?_) | refine p7 (h := ?_) | refine m6 (h := ?_) | refine d8 (h := ?_) | refine d7 (h := ?_)) | (apply zb1; refine zb5 (h := ?_)) | (apply zc3; infer_instance; infer_instance; exact rfl; exact rfl; (first | exact rfl | omega); exact rfl; (first | assumption | omega | decide)) | (apply zd9; refine zf0 (h := fun _ => ?_)))
        refine o0 (k + 1, vs ++ (zH9 (some ⟨bz, oz, none⟩, y.table.length, o2) k), (a_, cp_), N_) ⟨⟨by dsimp only; omega, hnx, by (dsimp only; rw [List.length_append, h9]; omega)⟩, hO_⟩ (by dsimp only; omega) ?_ ?_
        · exact fS_
        · (try dsimp only); (try simp only [List.append_assoc, List.cons_append, List.nil_append]); exact hS_
    obtain rfl : k = y.table.length := by omega
    have hvl1 : vs.length ≤ rs.length + 1203 := by omega
    clear hvl
    have hv300 : vs.length ≤ 100000 := by omega
    have h9 : (yw7 (some ⟨bu, ou, none⟩, y.unread.length, o3)).length = 1 := rfl
    have hnx : vs ++ (yw7 (some ⟨bu, ou, none⟩, y.unread.length, o3)) = qs ++ nums (yw8 (some ⟨bp, op, none⟩, p.passes.length, c3)) 0 (ys.take (j + 1)) := by
      rw [zW6 hdy, hvs, hus, hrs]; simp only [yw8, List.append_assoc]
    repeat' (first | (apply v9; exact rfl; exact dF_) | ((apply m8 (m := 0)); infer_instance; infer_instance; exact rfl; exact rfl; exact rfl; exact rfl; omega) | (apply zc4 (enc := zF7); infer_instance; infer_instance; infer_instance; exact rfl; exact zj2; exact zw2; exact rfl; exact rfl; exact rfl; assumption; exact rL_; (exact fun w hw => (SV.lit (yw7 (some ⟨bu, ou, none⟩, y.unread.length, o3)) zj2 hw (by exact aT_) rfl rfl (by decide))); (first | decide | (constructor <;> (try simp only [List.length_cons, List.length_nil]) <;> omega) | (constructor <;> simp <;> omega)); intro a_ cp_ N_ hO_; have oN_ := hO_.own; (try simp only [List.nil_append, List.append_assoc] at hO_); (try simp only [List.append_eq, List.append_assoc, List.cons_append, List.nil_append])) | ((first | apply w9 | apply y8 | apply x8 | apply n0); exact rfl; exact rfl) | (apply za7; exact rfl; exact rfl) | (apply w7; first | refine u9 (h := ?_) | refine y9 (h := ?_) | refine w8 (h := ?_) | refine q6 (h := ?_) | refine q0 (h := ?_)) | (apply p3; exact rfl; exact rfl; exact rfl) | (apply j0; exact rfl; exact rfl; exact rfl; (constructor <;> omega)) | (apply m9; refine l9 (h := fun _ => ?_)) | ((first | apply s9 | apply x9 | apply z8 | apply s7 | apply s8 | apply w4 | apply z9 | apply w5)) | ((first | apply w6 | apply z6 | apply z0 | apply p5 | apply y0 | apply z7)))
    refine o0 (j + 1, vs ++ (yw7 (some ⟨bu, ou, none⟩, y.unread.length, o3)), (a_, cp_), N_) ⟨⟨by dsimp only; omega, hnx, by (dsimp only; rw [List.length_append, h9]; omega)⟩, hO_⟩ (by dsimp only; omega) ?_ ?_
    · exact fS_
    · (try dsimp only); (try simp only [List.append_assoc, List.cons_append, List.nil_append]); exact hS_
  obtain rfl : j = p.passes.length := by omega
  rw [List.take_of_length_le (by omega)] at hrs
  have hfin : rs = nums (zZ8 (a1, p.ms.length, c1)) 0 ds ++ zC5 (ye2 (a2, p.items.length, c2)) p.items.length ++ nums (yw8 (a3, p.passes.length, c3)) 0 ys := by rw [hrs, hqs, hps]
  rw [← hfin]
  repeat' (first | (apply v9; exact rfl; exact dF_) | ((first | apply w9 | apply y8 | apply x8 | apply n0); exact rfl; exact rfl) | (apply p3; exact rfl; exact rfl; exact rfl) | ((first | apply s9 | apply x9 | apply z8 | apply s7 | apply s8 | apply w4 | apply z9 | apply w5)) | ((first | apply w6 | apply z6 | apply z0 | apply p5 | apply y0 | apply z7)))
  apply p8; apply zb0 Try.results12; exact rV_; intro w' hw
  exact ⟨_, NJ, rfl, ⟨_, _, rfl, hOJ⟩, hw.sub (by exact hS_), oJ⟩
end Go.Proofs.Ytdahckhlfldkkaa
namespace Go.Sx.Plt
open Go Go.Sx
theorem zN0 {p : g8} (h : (zc6 p).2 = 0) : zc6 p = (0, 0) := by
  by_cases h0 : 20 < p.ms.length ∨ 2000 < p.items.length ∨ 60 < p.passes.length
  · unfold zc6 at h
    rw [if_pos h0] at h
    simp at h
  · unfold zc6 at h ⊢
    rw [if_neg h0] at h ⊢
    repeat' split at h
    all_goals first | rfl | simp_all
theorem yC7 (p : g8) (x t : Int) : 0 ≤ (zk6 p x t).1.1 ∧ (zk6 p x t).1.1 ≤ 255 := by
  unfold zk6
  split
  · decide
  split
  · decide
  split
  · decide
  split
  · split
    · unfold zp5
      split
      · show (0 : Int) ≤ 2 ∧ (2 : Int) ≤ 255; decide
      split
      · show (0 : Int) ≤ 3 ∧ (3 : Int) ≤ 255; decide
      · show (0 : Int) ≤ 4 ∧ (4 : Int) ≤ 255; decide
    · decide
  · show (0 : Int) ≤ 1 ∧ (1 : Int) ≤ 255; decide
end Go.Sx.Plt
namespace Go.Proofs.Ytdahckhlfldkkaa
open Go Go.Sx Go.RowKit
attribute [local irreducible] WL WC WQ WR WB WF QB St Exit.then Exit.inBlock Exit.noGoto bodyPost roundPost zc1 YR RG BM Calls B zc7 ze3
theorem yi7 (p : Plt.g8) (x t : Int) : ∃ kd ps nu k : Int, (0 ≤ kd ∧ kd ≤ 255) ∧
    (∀ (w : World) (q : PlD), PlV w q p → Calls Try.prog 9 #[plV q, .int .i64 x, .int .i64 t] w fun e w' => e = .returned (.tuple #[.agg #[.int .u8 kd, .int .i64 ps, .int .i64 nu], .int .i64 k]) ∧ Below w.heap.size w w') ∧
    ∀ (w : World) (q : PlD), PlV w q p → Calls Try.prog 8 #[plV q, .int .i64 x, .int .i64 t] w fun e w' => e = .returned (.tuple #[.int .i64 kd, .int .i64 ps, .int .i64 nu, .int .i64 k]) ∧ Below w.heap.size w w' := by
  obtain ⟨⟨a, k⟩, hvf⟩ : ∃ z, Plt.zc6 p = z := ⟨_, rfl⟩
  by_cases hk : k = 0
  · subst hk
    have hvf : Plt.zc6 p = (0, 0) := Plt.zN0 (by rw [hvf])
    have hb := Plt.yC7 p x t
    obtain ⟨⟨⟨kd, ps, nu⟩, k⟩, he⟩ : ∃ z, Plt.zk6 p x t = z := ⟨_, rfl⟩
    rw [he] at hb
    exact ⟨kd, ps, nu, k, hb, fun w q h => zN1 (Plt.zD3 hvf) he w h, fun w q h => ya9 (Plt.zS9 hvf) hvf he w h⟩
  · exact ⟨0, 0, 0, k, by decide, fun w q h => yh6 hvf hk w h, fun w q h => yl1 hvf hk w h⟩
end Go.Proofs.Ytdahckhlfldkkaa
namespace Go.Sx.Plt
open Go Go.Sx
def exP (x : Nat → Int) : g8 := ⟨[⟨x 0, x 1, x 2, [x 3, x 4], [⟨x 5, x 6⟩, ⟨x 7, x 8⟩]⟩],
  [⟨x 9, x 10, x 11⟩, ⟨x 12, x 13, x 14⟩, ⟨x 15, x 16, x 17⟩, ⟨x 18, x 19, x 20⟩, ⟨x 21, x 22, x 23⟩],
  [⟨x 24, x 25, x 26, [(x 27, x 28)], [⟨x 29, x 30⟩, ⟨x 31, x 32⟩, ⟨x 33, x 34⟩], [x 35]⟩,
   ⟨x 36, x 37, x 38, [(x 39, x 40), (x 41, x 42)], [⟨x 43, x 44⟩, ⟨x 45, x 46⟩, ⟨x 47, x 48⟩], [x 49]⟩]⟩
theorem yn4 (x : Nat → Int) : Few (exP x) := by
  refine ⟨by simp [exP], by simp [exP], by simp [exP], fun m hm => ?_, fun y hy => ?_⟩
  · simp [exP] at hm; subst hm; simp
  · simp [exP] at hy; rcases hy with rfl | rfl <;> simp
theorem yn5 (x : Nat → Int) : (∀ m ∈ (exP x).ms, 2 ≤ m.caps.length ∧ 2 ≤ m.shifts.length) ∧ ∀ y ∈ (exP x).passes, 1 ≤ y.unread.length := by
  refine ⟨fun m hm => ?_, fun y hy => ?_⟩
  · simp [exP] at hm; subst hm; simp
  · simp [exP] at hy; rcases hy with rfl | rfl <;> simp
end Go.Sx.Plt
namespace Go.Proofs.Ytdahckhlfldkkaa
open Go Go.Sx Go.RowKit
attribute [local irreducible] WL WC WQ WR WB WF QB St Exit.then Exit.inBlock Exit.noGoto bodyPost roundPost zc1 YR RG BM Calls B zc7 ze3
theorem RunsV.nil (w : World) : RunsV w (.slice none 0 0) [] [] := ⟨SV.nil, rfl, fun i d r h => by simp at h⟩
theorem yp6 (p : Plt.g8) : ∃ (a : Nat) (k : Int) (runs : List Plt.Run), Plt.zc6 p = (a, k) ∧
    (∀ (w : World) (q : PlD), PlV w q p → Calls Try.prog 16 #[plV q] w fun e w' => ∃ v N, e = .returned v ∧ ye7 runs k v N ∧ Rep w w' N ∧ ∀ x ∈ N, x.own = true) ∧
    ∀ (w : World) (q : PlD), PlV w q p → Calls Try.prog 15 #[plV q] w fun e w' => ∃ v N, e = .returned v ∧ ye7 runs k v N ∧ Rep w w' N ∧ ∀ x ∈ N, x.own = true := by
  obtain ⟨⟨a, k⟩, hvf⟩ : ∃ z, Plt.zc6 p = z := ⟨_, rfl⟩
  have bad : ∀ {f : FuncId} {args : Array Value} {w : World}, (Calls Try.prog f args w fun e w' => e = .returned (.tuple #[.slice none 0 0, .int .i64 k]) ∧ Below w.heap.size w w') → Calls Try.prog f args w fun e w' => ∃ v N, e = .returned v ∧ ye7 [] k v N ∧ Rep w w' N ∧ ∀ x ∈ N, x.own = true := fun h =>
    h.mono fun e w' ⟨h1, h2⟩ => ⟨_, [], h1, ⟨none, 0, [], rfl, ⟨fun w0 w L L0 _ _ => RunsV.nil w, rfl⟩, by simp⟩, (Rep.start _).grow h2, by simp⟩
  by_cases hk : k = 0
  · subst hk
    have hvf : Plt.zc6 p = (0, 0) := Plt.zN0 (by rw [hvf])
    exact ⟨0, 0, Plt.za2 p, hvf, fun w q h => zs2 (Plt.zD3 hvf) w h, fun w q h => zr3 (Plt.zS9 hvf) hvf w h⟩
  · exact ⟨a, k, [], hvf, fun w q h => bad (zR5 hvf hk w h), fun w q h => bad (zX3 hvf hk w h)⟩
def zT3 (b1 b2 b3 b4 b5 b6 b7 b8 b9 b10 b11 : Nat) (x : Nat → Int) : PlD := ⟨(some ⟨b3, 0, none⟩, 1, 1), (some ⟨b4, 0, none⟩, 5, 5), (some ⟨b9, 0, none⟩, 2, 2), [(⟨x 0, x 1, x 2, (some ⟨b1, 0, none⟩, 2, 2), (some ⟨b2, 0, none⟩, 2, 2)⟩ : MD)], [(⟨x 24, x 25, x 26, (some ⟨b5, 0, none⟩, 1, 1), (some ⟨b6, 0, none⟩, 3, 3), (some ⟨b10, 0, none⟩, 1, 1)⟩ : PD), (⟨x 36, x 37, x 38, (some ⟨b7, 0, none⟩, 2, 2), (some ⟨b8, 0, none⟩, 3, 3), (some ⟨b11, 0, none⟩, 1, 1)⟩ : PD)]⟩
def exH (b1 b2 b3 b4 b5 b6 b7 b8 b9 b10 b11 : Nat) (x : Nat → Int) : List Ent := [⟨b9, Ce [.int .i64 (x 24), .int .i64 (x 25), .int .i64 (x 26), slc b5 1, slc b6 3, slc b10 1, .int .i64 (x 36), .int .i64 (x 37), .int .i64 (x 38), slc b7 2, slc b8 3, slc b11 1] 49, true⟩, ⟨b11, Ce [.int .i64 (x 49)] 3, true⟩, ⟨b10, Ce [.int .i64 (x 35)] 3, true⟩, ⟨b8, Ce [.int .i64 (x 43), .int .i64 (x 44), .int .i64 (x 45), .int .i64 (x 46), .int .i64 (x 47), .int .i64 (x 48)] 98, true⟩, ⟨b7, Ce [.int .i64 (x 39), .int .i64 (x 40), .int .i64 (x 41), .int .i64 (x 42)] 95, true⟩, ⟨b6, Ce [.int .i64 (x 29), .int .i64 (x 30), .int .i64 (x 31), .int .i64 (x 32), .int .i64 (x 33), .int .i64 (x 34)] 98, true⟩, ⟨b5, Ce [.int .i64 (x 27), .int .i64 (x 28)] 95, true⟩, ⟨b4, Ce [.int .i64 (x 9), .int .i64 (x 10), .int .i64 (x 11), .int .i64 (x 12), .int .i64 (x 13), .int .i64 (x 14), .int .i64 (x 15), .int .i64 (x 16), .int .i64 (x 17), .int .i64 (x 18), .int .i64 (x 19), .int .i64 (x 20), .int .i64 (x 21), .int .i64 (x 22), .int .i64 (x 23)] 88, true⟩, ⟨b3, Ce [.int .i64 (x 0), .int .i64 (x 1), .int .i64 (x 2), slc b1 2, slc b2 2] 67, true⟩, ⟨b2, Ce [.int .i64 (x 5), .int .i64 (x 6), .int .i64 (x 7), .int .i64 (x 8)] 81, true⟩, ⟨b1, Ce [.int .i64 (x 3), .int .i64 (x 4)] 3, true⟩]
theorem yB7 {b1 b2 b3 b4 b5 b6 b7 b8 b9 b10 b11 : Nat} {x : Nat → Int} : ∀ e ∈ exH b1 b2 b3 b4 b5 b6 b7 b8 b9 b10 b11 x, e.own = true := by simp [exH]
set_option maxRecDepth 100000 in
theorem zY9 {b1 b2 b3 b4 b5 b6 b7 b8 b9 b10 b11 : Nat} {x : Nat → Int} : Shw (exH b1 b2 b3 b4 b5 b6 b7 b8 b9 b10 b11 x) (fun w => PlV w (zT3 b1 b2 b3 b4 b5 b6 b7 b8 b9 b10 b11 x) (Plt.exP x)) := fun w0 w L L0 hr hw => by
  have hw2 : Rep w0 w (exH b1 b2 b3 b4 b5 b6 b7 b8 b9 b10 b11 x ++ L0) := hw.perm hr
  unfold exH at hw2
  simp only [List.cons_append, List.nil_append] at hw2
  refine ⟨SV.lit (n := 1) [(⟨x 0, x 1, x 2, (some ⟨b1, 0, none⟩, 2, 2), (some ⟨b2, 0, none⟩, 2, 2)⟩ : MD)] zw4 hw2 (by exact aT_) rfl rfl (by decide), SV.lit (n := 5) (Plt.exP x).items zq4 hw2 (by exact aT_) rfl rfl (by simp [Plt.exP]), SV.lit (n := 2) [(⟨x 24, x 25, x 26, (some ⟨b5, 0, none⟩, 1, 1), (some ⟨b6, 0, none⟩, 3, 3), (some ⟨b10, 0, none⟩, 1, 1)⟩ : PD), (⟨x 36, x 37, x 38, (some ⟨b7, 0, none⟩, 2, 2), (some ⟨b8, 0, none⟩, 3, 3), (some ⟨b11, 0, none⟩, 1, 1)⟩ : PD)] zw5 hw2 (by exact aT_) rfl rfl (by decide), rfl, rfl, fun i d m hd hm => ?_, fun i d y hd hy => ?_⟩
  · rcases i with _ | i
    · simp [zT3] at hd
      simp [Plt.exP] at hm
      subst hd hm
      exact ⟨rfl, rfl, rfl, SV.lit (n := 2) [x 3, x 4] j8 hw2 (by exact aT_) rfl rfl (by simp), SV.lit (n := 2) [⟨x 5, x 6⟩, ⟨x 7, x 8⟩] zw6 hw2 (by exact aT_) rfl rfl (by simp)⟩
    · simp [zT3] at hd
  · rcases i with _ | _ | i
    · simp [zT3] at hd
      simp [Plt.exP] at hy
      subst hd hy
      exact ⟨rfl, rfl, rfl, SV.lit (n := 1) [(x 27, x 28)] zn3 hw2 (by exact aT_) rfl rfl (by simp), SV.lit (n := 3) [⟨x 29, x 30⟩, ⟨x 31, x 32⟩, ⟨x 33, x 34⟩] zn2 hw2 (by exact aT_) rfl rfl (by simp), SV.lit (n := 1) [x 35] j8 hw2 (by exact aT_) rfl rfl (by simp)⟩
    · simp [zT3] at hd
      simp [Plt.exP] at hy
      subst hd hy
      exact ⟨rfl, rfl, rfl, SV.lit (n := 2) [(x 39, x 40), (x 41, x 42)] zn3 hw2 (by exact aT_) rfl rfl (by simp), SV.lit (n := 3) [⟨x 43, x 44⟩, ⟨x 45, x 46⟩, ⟨x 47, x 48⟩] zn2 hw2 (by exact aT_) rfl rfl (by simp), SV.lit (n := 1) [x 49] j8 hw2 (by exact aT_) rfl rfl (by simp)⟩
    · simp [zT3] at hd
end Go.Proofs.Ytdahckhlfldkkaa
namespace Go.Proofs.Ytdahckhlfldkkaa
open Go Go.Sx Go.RowKit
def yy1 (x : Nat → Int) (i : Nat) (v : Int) : Nat → Int := fun k => if k = i then v else x k
def yK1 (A : List Addr) (L : List Ent) (i : Nat) (v : Int) (L' : List Ent) : Prop :=
  ∃ b off l l' e, A[i]? = some ⟨b, off, none⟩ ∧ LPut l off [.int .i64 v] l' ∧ Upd L b (Ce l e) (Ce l' e) L'
theorem yE6 {b1 b2 b3 b4 b5 b6 b7 b8 b9 b10 b11 : Nat} {x : Nat → Int} {v : Int} : ∀ i : Nat, i < 50 → yK1 (zx6 (zT3 b1 b2 b3 b4 b5 b6 b7 b8 b9 b10 b11 x)) (exH b1 b2 b3 b4 b5 b6 b7 b8 b9 b10 b11 x) i v (exH b1 b2 b3 b4 b5 b6 b7 b8 b9 b10 b11 (yy1 x i v))
  | 0, _ => ⟨b3, 0, _, _, _, rfl, (.put .done), (.tl (.tl (.tl (.tl (.tl (.tl (.tl (.tl .hd))))))))⟩
  | 1, _ => ⟨b3, 1, _, _, _, rfl, (.skip (.put .done)), (.tl (.tl (.tl (.tl (.tl (.tl (.tl (.tl .hd))))))))⟩
  | 2, _ => ⟨b3, 2, _, _, _, rfl, (.skip (.skip (.put .done))), (.tl (.tl (.tl (.tl (.tl (.tl (.tl (.tl .hd))))))))⟩
  | 3, _ => ⟨b1, 0, _, _, _, rfl, (.put .done), (.tl (.tl (.tl (.tl (.tl (.tl (.tl (.tl (.tl (.tl .hd))))))))))⟩
  | 4, _ => ⟨b1, 1, _, _, _, rfl, (.skip (.put .done)), (.tl (.tl (.tl (.tl (.tl (.tl (.tl (.tl (.tl (.tl .hd))))))))))⟩
  | 5, _ => ⟨b2, 0, _, _, _, rfl, (.put .done), (.tl (.tl (.tl (.tl (.tl (.tl (.tl (.tl (.tl .hd)))))))))⟩
  | 6, _ => ⟨b2, 1, _, _, _, rfl, (.skip (.put .done)), (.tl (.tl (.tl (.tl (.tl (.tl (.tl (.tl (.tl .hd)))))))))⟩
  | 7, _ => ⟨b2, 2, _, _, _, rfl, (.skip (.skip (.put .done))), (.tl (.tl (.tl (.tl (.tl (.tl (.tl (.tl (.tl .hd)))))))))⟩
  | 8, _ => ⟨b2, 3, _, _, _, rfl, (.skip (.skip (.skip (.put .done)))), (.tl (.tl (.tl (.tl (.tl (.tl (.tl (.tl (.tl .hd)))))))))⟩
  | 9, _ => ⟨b4, 0, _, _, _, rfl, (.put .done), (.tl (.tl (.tl (.tl (.tl (.tl (.tl .hd)))))))⟩
  | 10, _ => ⟨b4, 1, _, _, _, rfl, (.skip (.put .done)), (.tl (.tl (.tl (.tl (.tl (.tl (.tl .hd)))))))⟩
  | 11, _ => ⟨b4, 2, _, _, _, rfl, (.skip (.skip (.put .done))), (.tl (.tl (.tl (.tl (.tl (.tl (.tl .hd)))))))⟩
  | 12, _ => ⟨b4, 3, _, _, _, rfl, (.skip (.skip (.skip (.put .done)))), (.tl (.tl (.tl (.tl (.tl (.tl (.tl .hd)))))))⟩
  | 13, _ => ⟨b4, 4, _, _, _, rfl, (.skip (.skip (.skip (.skip (.put .done))))), (.tl (.tl (.tl (.tl (.tl (.tl (.tl .hd)))))))⟩
  | 14, _ => ⟨b4, 5, _, _, _, rfl, (.skip (.skip (.skip (.skip (.skip (.put .done)))))), (.tl (.tl (.tl (.tl (.tl (.tl (.tl .hd)))))))⟩
  | 15, _ => ⟨b4, 6, _, _, _, rfl, (.skip (.skip (.skip (.skip (.skip (.skip (.put .done))))))), (.tl (.tl (.tl (.tl (.tl (.tl (.tl .hd)))))))⟩
  | 16, _ => ⟨b4, 7, _, _, _, rfl, (.skip (.skip (.skip (.skip (.skip (.skip (.skip (.put .done)))))))), (.tl (.tl (.tl (.tl (.tl (.tl (.tl .hd)))))))⟩
  | 17, _ => ⟨b4, 8, _, _, _, rfl, (.skip (.skip (.skip (.skip (.skip (.skip (.skip (.skip (.put .done))))))))), (.tl (.tl (.tl (.tl (.tl (.tl (.tl .hd)))))))⟩
  | 18, _ => ⟨b4, 9, _, _, _, rfl, (.skip (.skip (.skip (.skip (.skip (.skip (.skip (.skip (.skip (.put .done)))))))))), (.tl (.tl (.tl (.tl (.tl (.tl (.tl .hd)))))))⟩
  | 19, _ => ⟨b4, 10, _, _, _, rfl, (.skip (.skip (.skip (.skip (.skip (.skip (.skip (.skip (.skip (.skip (.put .done))))))))))), (.tl (.tl (.tl (.tl (.tl (.tl (.tl .hd)))))))⟩
  | 20, _ => ⟨b4, 11, _, _, _, rfl, (.skip (.skip (.skip (.skip (.skip (.skip (.skip (.skip (.skip (.skip (.skip (.put .done)))))))))))), (.tl (.tl (.tl (.tl (.tl (.tl (.tl .hd)))))))⟩
  | 21, _ => ⟨b4, 12, _, _, _, rfl, (.skip (.skip (.skip (.skip (.skip (.skip (.skip (.skip (.skip (.skip (.skip (.skip (.put .done))))))))))))), (.tl (.tl (.tl (.tl (.tl (.tl (.tl .hd)))))))⟩
  | 22, _ => ⟨b4, 13, _, _, _, rfl, (.skip (.skip (.skip (.skip (.skip (.skip (.skip (.skip (.skip (.skip (.skip (.skip (.skip (.put .done)))))))))))))), (.tl (.tl (.tl (.tl (.tl (.tl (.tl .hd)))))))⟩
  | 23, _ => ⟨b4, 14, _, _, _, rfl, (.skip (.skip (.skip (.skip (.skip (.skip (.skip (.skip (.skip (.skip (.skip (.skip (.skip (.skip (.put .done))))))))))))))), (.tl (.tl (.tl (.tl (.tl (.tl (.tl .hd)))))))⟩
  | 24, _ => ⟨b9, 0, _, _, _, rfl, (.put .done), .hd⟩
  | 25, _ => ⟨b9, 1, _, _, _, rfl, (.skip (.put .done)), .hd⟩
  | 26, _ => ⟨b9, 2, _, _, _, rfl, (.skip (.skip (.put .done))), .hd⟩
  | 27, _ => ⟨b5, 0, _, _, _, rfl, (.put .done), (.tl (.tl (.tl (.tl (.tl (.tl .hd))))))⟩
  | 28, _ => ⟨b5, 1, _, _, _, rfl, (.skip (.put .done)), (.tl (.tl (.tl (.tl (.tl (.tl .hd))))))⟩
  | 29, _ => ⟨b6, 0, _, _, _, rfl, (.put .done), (.tl (.tl (.tl (.tl (.tl .hd)))))⟩
  | 30, _ => ⟨b6, 1, _, _, _, rfl, (.skip (.put .done)), (.tl (.tl (.tl (.tl (.tl .hd)))))⟩
  | 31, _ => ⟨b6, 2, _, _, _, rfl, (.skip (.skip (.put .done))), (.tl (.tl (.tl (.tl (.tl .hd)))))⟩
  | 32, _ => ⟨b6, 3, _, _, _, rfl, (.skip (.skip (.skip (.put .done)))), (.tl (.tl (.tl (.tl (.tl .hd)))))⟩
  | 33, _ => ⟨b6, 4, _, _, _, rfl, (.skip (.skip (.skip (.skip (.put .done))))), (.tl (.tl (.tl (.tl (.tl .hd)))))⟩
  | 34, _ => ⟨b6, 5, _, _, _, rfl, (.skip (.skip (.skip (.skip (.skip (.put .done)))))), (.tl (.tl (.tl (.tl (.tl .hd)))))⟩
  | 35, _ => ⟨b10, 0, _, _, _, rfl, (.put .done), (.tl (.tl .hd))⟩
  | 36, _ => ⟨b9, 6, _, _, _, rfl, (.skip (.skip (.skip (.skip (.skip (.skip (.put .done))))))), .hd⟩
  | 37, _ => ⟨b9, 7, _, _, _, rfl, (.skip (.skip (.skip (.skip (.skip (.skip (.skip (.put .done)))))))), .hd⟩
  | 38, _ => ⟨b9, 8, _, _, _, rfl, (.skip (.skip (.skip (.skip (.skip (.skip (.skip (.skip (.put .done))))))))), .hd⟩
  | 39, _ => ⟨b7, 0, _, _, _, rfl, (.put .done), (.tl (.tl (.tl (.tl .hd))))⟩
  | 40, _ => ⟨b7, 1, _, _, _, rfl, (.skip (.put .done)), (.tl (.tl (.tl (.tl .hd))))⟩
  | 41, _ => ⟨b7, 2, _, _, _, rfl, (.skip (.skip (.put .done))), (.tl (.tl (.tl (.tl .hd))))⟩
  | 42, _ => ⟨b7, 3, _, _, _, rfl, (.skip (.skip (.skip (.put .done)))), (.tl (.tl (.tl (.tl .hd))))⟩
  | 43, _ => ⟨b8, 0, _, _, _, rfl, (.put .done), (.tl (.tl (.tl .hd)))⟩
  | 44, _ => ⟨b8, 1, _, _, _, rfl, (.skip (.put .done)), (.tl (.tl (.tl .hd)))⟩
  | 45, _ => ⟨b8, 2, _, _, _, rfl, (.skip (.skip (.put .done))), (.tl (.tl (.tl .hd)))⟩
  | 46, _ => ⟨b8, 3, _, _, _, rfl, (.skip (.skip (.skip (.put .done)))), (.tl (.tl (.tl .hd)))⟩
  | 47, _ => ⟨b8, 4, _, _, _, rfl, (.skip (.skip (.skip (.skip (.put .done))))), (.tl (.tl (.tl .hd)))⟩
  | 48, _ => ⟨b8, 5, _, _, _, rfl, (.skip (.skip (.skip (.skip (.skip (.put .done)))))), (.tl (.tl (.tl .hd)))⟩
  | 49, _ => ⟨b11, 0, _, _, _, rfl, (.put .done), (.tl .hd)⟩
  | n + 50, h => absurd h (by omega)
end Go.Proofs.Ytdahckhlfldkkaa
namespace Go.Proofs.Ytdahckhlfldkkaa
open Go Go.Sx Go.RowKit
attribute [local irreducible] WL WC WQ WR WB WF QB St Exit.then Exit.inBlock Exit.noGoto bodyPost roundPost zc1 YR RG BM Calls B zc7 ze3
def x0 : Nat → Int := fun k => ([1, 0, 2, 5, 5, 0, 1, 10, 20, 1, 7, 1, 2, 6, 1, 3, 5, 1, 4, 7, 1, 5, 6, 1, 3, 1, 0, 0, 1, 5, 0, 6, 1, 7, 0, 9, 4, 1, 0, 3, 0, 3, 1, 5, 0, 6, 0, 7, 1, 2] : List Int).getD k 0
theorem yq2 (w : World) : Calls Try.prog 11 #[] w fun e w' => ∃ v N, e = .returned v ∧ (∃ b1 b2 b3 b4 b5 b6 b7 b8 b9, v = .agg #[slc b3 1, slc b4 5, slc b9 2] ∧ N = [⟨b9, Ce [.int .i64 3, .int .i64 1, .int .i64 0, slc b5 1, slc b6 3, .slice none 0 0, .int .i64 4, .int .i64 1, .int .i64 0, slc b7 2, slc b8 3, .slice none 0 0] 49, true⟩, ⟨b8, Ce [.int .i64 5, .int .i64 0, .int .i64 6, .int .i64 0, .int .i64 7, .int .i64 1] 98, true⟩, ⟨b7, Ce [.int .i64 3, .int .i64 0, .int .i64 3, .int .i64 1] 95, true⟩, ⟨b6, Ce [.int .i64 5, .int .i64 0, .int .i64 6, .int .i64 1, .int .i64 7, .int .i64 0] 98, true⟩, ⟨b5, Ce [.int .i64 0, .int .i64 1] 95, true⟩, ⟨b4, Ce [.int .i64 1, .int .i64 7, .int .i64 1, .int .i64 2, .int .i64 6, .int .i64 1, .int .i64 3, .int .i64 5, .int .i64 1, .int .i64 4, .int .i64 7, .int .i64 1, .int .i64 5, .int .i64 6, .int .i64 1] 88, true⟩, ⟨b3, Ce [.int .i64 1, .int .i64 0, .int .i64 2, slc b1 2, slc b2 2] 67, true⟩, ⟨b2, Ce [.int .i64 0, .int .i64 1, .int .i64 10, .int .i64 20] 81, true⟩, ⟨b1, Ce [.int .i64 5, .int .i64 5] 3, true⟩]) ∧ Rep w w' N ∧ ∀ x ∈ N, x.own = true :=
  (zE4 w).mono fun e w' ⟨v, N, h1, ⟨b1, b2, b3, b4, b5, b6, b7, b8, b9, h2, h3⟩, h4, h5⟩ => ⟨v, N, h1, ⟨b1, b2, b3, b4, b5, b6, b7, b8, b9, by rw [h2]; rfl, by rw [h3]; rfl⟩, h4, h5⟩
theorem zW4 {b1 b2 b3 b4 b5 b6 b7 b8 b9 b10 b11 b0 : Nat} {x : Nat → Int} (w : World) (h : PlV w (zT3 b1 b2 b3 b4 b5 b6 b7 b8 b9 b10 b11 x) (Plt.exP x)) (hb0 : w.heap[b0]? = some (Ce [slc b3 1, slc b4 5, slc b9 2] 26)) :
    Calls Try.prog 12 #[ptr b0] w fun e w' => ∃ v N, e = .returned v ∧ (∃ a c, v = .slice a 50 c ∧ OW 53 1 zF7 (.slice a 50 c) (zx6 (zT3 b1 b2 b3 b4 b5 b6 b7 b8 b9 b10 b11 x)) N) ∧ Rep w w' N ∧ ∀ x ∈ N, x.own = true :=
  (zT8 (Plt.yn4 x) (Plt.yn5 x).1 (Plt.yn5 x).2 w h hb0).mono fun e w' ⟨v, N, h1, ⟨a, c, h2, h3⟩, h4, h5⟩ => ⟨v, N, h1, ⟨a, c, h2, h3⟩, h4, h5⟩
theorem yF8 {n : Nat} {D : List Deferred} {w0 : World} {F : List (Nat × Value)} {L : List Ent} {X : Act → World → Prop} (L' : List Ent) (hL : HSub L' L) (h : St n D w0 F L' X) : St n D w0 F L X := St.weak FSub.refl hL h
set_option maxHeartbeats 16000000 in
set_option maxRecDepth 100000 in
theorem zK7 (w : World) : Calls Try.prog 4 #[] w fun e w' => e = .returned (.bool true) ∧ Below w.heap.size w w' := by
  refine zP8 Try.func4 rfl Try.ntmps4 rfl (Rep.start w) ?_
  repeat' (first | ((first | apply w9 | apply y8 | apply x8 | apply p4 | apply zr5 | apply n0); exact rfl; exact rfl) | ((first | apply s9 | apply x9 | apply z8 | apply s7 | apply s8 | apply w4 | apply z9 | apply w5)) | ((first | apply w6 | apply z6 | apply z0 | apply p5 | apply y0 | apply z7)))
  apply j9 (σ := Nat) (Fs := fun i => [(1, .int .i64 i)]) (Ls := fun _ => []) (I := fun i => i ≤ 50) (μ := fun i => 51 - i) (s0 := 0)
  · exact Nat.zero_le _
  · exact fS_
  · exact hS_
  intro i hi
  have hi : i ≤ 50 := hi
  repeat' (first | ((first | apply w9 | apply y8 | apply x8 | apply p4 | apply zr5 | apply n0); exact rfl; exact rfl) | (apply o9; infer_instance; exact rfl; exact rfl) | (apply m9; refine l9 (h := fun _ => ?_)) | ((first | apply s9 | apply x9 | apply z8 | apply s7 | apply s8 | apply w4 | apply z9 | apply w5)) | ((first | apply w6 | apply z6 | apply z0 | apply p5 | apply y0 | apply z7)))
  rename_i b28
  apply j9 (σ := Nat) (Fs := fun k => [(30, .int .i64 k), (29, .int .i64 19), (28, slc b28 19), (2, .int .i64 (if k = 0 then 0 else 50)), (1, .int .i64 i)]) (Ls := fun _ => ⟨b28, Ce (([-1, 0, 1, 2, 3, 4, 5, 6, 7, 11, 100, 101, 1000, 1001, 100001, 999999, 1000000, 1051898399, 1051898400] : List Int).flatMap encI) 3, true⟩ :: []) (I := fun k => k ≤ 19 ∧ (i = 50 → k = 0)) (μ := fun k => 19 - k) (s0 := 0)
  · exact ⟨Nat.zero_le _, fun _ => rfl⟩
  · exact fS_
  · exact hS_
  rintro k ⟨hk, hik⟩
  by_cases hkl : k < 19
  case neg =>
    have hk0 : (if k = 0 then (0 : Int) else 50) = 50 := if_neg (by omega)
    rw [hk0]
    repeat' (first | (apply v9; exact rfl; exact dF_) | ((first | apply w9 | apply y8 | apply x8 | apply p4 | apply zr5 | apply n0); exact rfl; exact rfl) | ((first | apply p3 | apply d9 | apply l8 | apply p0); exact rfl; exact rfl; exact rfl) | (apply j0; exact rfl; exact rfl; exact rfl; (constructor <;> omega)) | ((first | apply s9 | apply x9 | apply z8 | apply s7 | apply s8 | apply w4 | apply z9 | apply w5)) | ((first | apply w6 | apply z6 | apply z0 | apply p5 | apply y0 | apply z7)))
    refine o0 (i + 1) (show i + 1 ≤ 50 by omega) (show 51 - (i + 1) < 51 - i by omega) ?_ ?_
    · exact fS_
    · exact hS_
  obtain ⟨v, hv⟩ : ∃ v, ([-1, 0, 1, 2, 3, 4, 5, 6, 7, 11, 100, 101, 1000, 1001, 100001, 999999, 1000000, 1051898399, 1051898400] : List Int)[k]? = some v := ⟨_, List.getElem?_eq_getElem hkl⟩
  repeat' (first | (apply v8; exact rfl; exact dT_) | ((apply zW7 (v := .int .i64 v)); infer_instance; exact rfl; (intro w' hw'; exact SV.cell1 (SV.lit ([-1, 0, 1, 2, 3, 4, 5, 6, 7, 11, 100, 101, 1000, 1001, 100001, 999999, 1000000, 1051898399, 1051898400] : List Int) j8 hw' (by exact aT_) rfl rfl (by decide)) hv rfl); exact rfl) | ((first | ((apply f5 (f := 11)); exact rfl) | ((apply d6 (f := 11)); exact rfl; exact rfl; exact sJ_)); exact eV_; exact (fun w _ => yq2 w); rintro v N ⟨b1, b2, b3, b4, b5, b6, b7, b8, b9, rfl, rfl⟩ <;> (try simp only [List.cons_append, List.nil_append, List.append_assoc])) | ((apply m8 (m := 0)); infer_instance; infer_instance; exact rfl; exact rfl; exact rfl; exact rfl; omega) | ((apply m8 (m := 1)); infer_instance; infer_instance; exact rfl; exact rfl; exact rfl; exact rfl; omega) | ((first | apply w9 | apply y8 | apply x8 | apply p4 | apply zr5 | apply n0); exact rfl; exact rfl) | ((first | apply za7); exact rfl; exact rfl) | (apply w7; first | refine u9 (h := ?_) | refine y9 (h := ?_) | refine w8 (h := ?_) | refine q6 (h := ?_) | refine q0 (h := ?_)) | ((first | apply p3 | apply d9 | apply l8 | apply p0); exact rfl; exact rfl; exact rfl) | (apply o7; exact rfl; intro _) | (apply q7; first | refine q8 (h := ?_) | refine q9 (h := ?_)) | (apply m9; refine l9 (h := fun _ => ?_)) | (apply m8; infer_instance; infer_instance; exact rfl; exact rfl; (first | exact rfl | omega); exact rfl; (first | assumption | omega | decide)) | ((first | apply s9 | apply x9 | apply z8 | apply s7 | apply s8 | apply w4 | apply z9 | apply w5)) | ((first | apply w6 | apply z6 | apply z0 | apply p5 | apply y0 | apply z7)))
  rename_i bc b10 b11
  by_cases hi50 : i = 50
  · obtain rfl : k = 0 := hik hi50
    subst hi50
    repeat' (first | (apply v8; exact rfl; exact dT_) | ((first | ((apply f5 (f := 12)); exact rfl) | ((apply d6 (f := 12)); exact rfl; exact rfl; exact sJ_)); exact eV_; exact (fun w hw => zW4 (x := x0) w ((@zY9 b1 b2 b3 b4 b5 b6 b7 b8 b9 b10 b11 x0).all (hw.sub (by show HSub [⟨b9, Ce [.int .i64 3, .int .i64 1, .int .i64 0, slc b5 1, slc b6 3, slc b10 1, .int .i64 4, .int .i64 1, .int .i64 0, slc b7 2, slc b8 3, slc b11 1] 49, true⟩, ⟨b11, Ce [.int .i64 2] 3, true⟩, ⟨b10, Ce [.int .i64 9] 3, true⟩, ⟨b8, Ce [.int .i64 5, .int .i64 0, .int .i64 6, .int .i64 0, .int .i64 7, .int .i64 1] 98, true⟩, ⟨b7, Ce [.int .i64 3, .int .i64 0, .int .i64 3, .int .i64 1] 95, true⟩, ⟨b6, Ce [.int .i64 5, .int .i64 0, .int .i64 6, .int .i64 1, .int .i64 7, .int .i64 0] 98, true⟩, ⟨b5, Ce [.int .i64 0, .int .i64 1] 95, true⟩, ⟨b4, Ce [.int .i64 1, .int .i64 7, .int .i64 1, .int .i64 2, .int .i64 6, .int .i64 1, .int .i64 3, .int .i64 5, .int .i64 1, .int .i64 4, .int .i64 7, .int .i64 1, .int .i64 5, .int .i64 6, .int .i64 1] 88, true⟩, ⟨b3, Ce [.int .i64 1, .int .i64 0, .int .i64 2, slc b1 2, slc b2 2] 67, true⟩, ⟨b2, Ce [.int .i64 0, .int .i64 1, .int .i64 10, .int .i64 20] 81, true⟩, ⟨b1, Ce [.int .i64 5, .int .i64 5] 3, true⟩] _; exact hS_))) (hw.at (by exact aT_))); rintro v N ⟨aa, ca, rfl, hON⟩ <;> (try simp only [List.cons_append, List.nil_append, List.append_assoc])) | ((first | ((apply t8 (f := 6)); exact rfl) | ((apply t9 (f := 6)); exact rfl; kernel_rfl; exact rfl; exact sJ_)); exact eV_; exact (fun w _ => yc5 w)) | ((first | apply w9 | apply y8 | apply x8 | apply p4 | apply zr5 | apply n0); exact rfl; exact rfl) | ((first | apply p3 | apply d9 | apply l8 | apply p0); exact rfl; exact rfl; exact rfl) | (apply o9; infer_instance; exact rfl; exact rfl) | ((first | apply s9 | apply x9 | apply z8 | apply s7 | apply s8 | apply w4 | apply z9 | apply w5)) | ((first | apply w6 | apply z6 | apply z0 | apply p5 | apply y0 | apply z7)) | (apply zs6; exact rfl))
    apply p8; apply zb0 Try.results4; exact rV_; intro w' hw
    have oA := hON.own
    exact ⟨rfl, hw.below (show AO _ from by exact aO_)⟩
  have hi5 : i < 50 := by omega
  obtain ⟨pb, po, pl, pl', pe, hpa, hpP, hpU⟩ := yE6 (b1 := b1) (b2 := b2) (b3 := b3) (b4 := b4) (b5 := b5) (b6 := b6) (b7 := b7) (b8 := b8) (b9 := b9) (b10 := b10) (b11 := b11) (x := x0) (v := v) i hi5
  repeat' (first | (apply v9; exact rfl; exact dF_) | ((first | ((apply f5 (f := 12)); exact rfl) | ((apply d6 (f := 12)); exact rfl; exact rfl; exact sJ_)); exact eV_; exact (fun w hw => zW4 (x := x0) w ((@zY9 b1 b2 b3 b4 b5 b6 b7 b8 b9 b10 b11 x0).all (hw.sub (by show HSub [⟨b9, Ce [.int .i64 3, .int .i64 1, .int .i64 0, slc b5 1, slc b6 3, slc b10 1, .int .i64 4, .int .i64 1, .int .i64 0, slc b7 2, slc b8 3, slc b11 1] 49, true⟩, ⟨b11, Ce [.int .i64 2] 3, true⟩, ⟨b10, Ce [.int .i64 9] 3, true⟩, ⟨b8, Ce [.int .i64 5, .int .i64 0, .int .i64 6, .int .i64 0, .int .i64 7, .int .i64 1] 98, true⟩, ⟨b7, Ce [.int .i64 3, .int .i64 0, .int .i64 3, .int .i64 1] 95, true⟩, ⟨b6, Ce [.int .i64 5, .int .i64 0, .int .i64 6, .int .i64 1, .int .i64 7, .int .i64 0] 98, true⟩, ⟨b5, Ce [.int .i64 0, .int .i64 1] 95, true⟩, ⟨b4, Ce [.int .i64 1, .int .i64 7, .int .i64 1, .int .i64 2, .int .i64 6, .int .i64 1, .int .i64 3, .int .i64 5, .int .i64 1, .int .i64 4, .int .i64 7, .int .i64 1, .int .i64 5, .int .i64 6, .int .i64 1] 88, true⟩, ⟨b3, Ce [.int .i64 1, .int .i64 0, .int .i64 2, slc b1 2, slc b2 2] 67, true⟩, ⟨b2, Ce [.int .i64 0, .int .i64 1, .int .i64 10, .int .i64 20] 81, true⟩, ⟨b1, Ce [.int .i64 5, .int .i64 5] 3, true⟩] _; exact hS_))) (hw.at (by exact aT_))); rintro v N ⟨aa, ca, rfl, hON⟩ <;> (try simp only [List.cons_append, List.nil_append, List.append_assoc])) | ((first | apply w9 | apply y8 | apply x8 | apply p4 | apply zr5 | apply n0); exact rfl; exact rfl) | ((first | apply p3 | apply d9 | apply l8 | apply p0); exact rfl; exact rfl; exact rfl) | (apply o9; infer_instance; exact rfl; exact rfl) | ((first | apply s9 | apply x9 | apply z8 | apply s7 | apply s8 | apply w4 | apply z9 | apply w5)) | ((first | apply w6 | apply z6 | apply z0 | apply p5 | apply y0 | apply z7)))
  obtain ⟨ba, sa, rfl, -⟩ := OW.some hON (by decide)
  have oA := hON.own
  refine yF8 (N ++ ⟨b28, Ce (([-1, 0, 1, 2, 3, 4, 5, 6, 7, 11, 100, 101, 1000, 1001, 100001, 999999, 1000000, 1051898399, 1051898400] : List Int).flatMap encI) 3, true⟩ :: ⟨bc, Ce [slc b3 1, slc b4 5, slc b9 2] 26, true⟩ :: exH b1 b2 b3 b4 b5 b6 b7 b8 b9 b10 b11 x0) (by show HSub (N ++ ⟨b28, Ce (([-1, 0, 1, 2, 3, 4, 5, 6, 7, 11, 100, 101, 1000, 1001, 100001, 999999, 1000000, 1051898399, 1051898400] : List Int).flatMap encI) 3, true⟩ :: ⟨bc, Ce [slc b3 1, slc b4 5, slc b9 2] 26, true⟩ :: [⟨b9, Ce [.int .i64 3, .int .i64 1, .int .i64 0, slc b5 1, slc b6 3, slc b10 1, .int .i64 4, .int .i64 1, .int .i64 0, slc b7 2, slc b8 3, slc b11 1] 49, true⟩, ⟨b11, Ce [.int .i64 2] 3, true⟩, ⟨b10, Ce [.int .i64 9] 3, true⟩, ⟨b8, Ce [.int .i64 5, .int .i64 0, .int .i64 6, .int .i64 0, .int .i64 7, .int .i64 1] 98, true⟩, ⟨b7, Ce [.int .i64 3, .int .i64 0, .int .i64 3, .int .i64 1] 95, true⟩, ⟨b6, Ce [.int .i64 5, .int .i64 0, .int .i64 6, .int .i64 1, .int .i64 7, .int .i64 0] 98, true⟩, ⟨b5, Ce [.int .i64 0, .int .i64 1] 95, true⟩, ⟨b4, Ce [.int .i64 1, .int .i64 7, .int .i64 1, .int .i64 2, .int .i64 6, .int .i64 1, .int .i64 3, .int .i64 5, .int .i64 1, .int .i64 4, .int .i64 7, .int .i64 1, .int .i64 5, .int .i64 6, .int .i64 1] 88, true⟩, ⟨b3, Ce [.int .i64 1, .int .i64 0, .int .i64 2, slc b1 2, slc b2 2] 67, true⟩, ⟨b2, Ce [.int .i64 0, .int .i64 1, .int .i64 10, .int .i64 20] 81, true⟩, ⟨b1, Ce [.int .i64 5, .int .i64 5] 3, true⟩]) _; exact hS_) ?_
  repeat' (first | ((apply zW7 (v := .pointer (some ⟨pb, po, none⟩))); infer_instance; exact rfl; (intro w' hw'; exact SV.cell1 (hON.sv zj2 (by exact rL_) hw') hpa rfl); exact rfl) | (apply ye5; infer_instance; exact rfl; exact rfl; exact rfl; exact At.right (At.tl (At.tl hpU.at)); exact hpP; exact Upd.right (Upd.tl (Upd.tl hpU))) | ((first | apply w9 | apply y8 | apply x8 | apply p4 | apply zr5 | apply n0); exact rfl; exact rfl) | (apply w7; first | refine u9 (h := ?_) | refine y9 (h := ?_) | refine w8 (h := ?_) | refine q6 (h := ?_) | refine q0 (h := ?_)) | (apply m8; infer_instance; infer_instance; exact rfl; exact rfl; (first | exact rfl | omega); exact rfl; (first | assumption | omega | decide)) | ((first | apply s9 | apply x9 | apply z8 | apply s7 | apply s8 | apply w4 | apply z9 | apply w5)) | ((first | apply w6 | apply z6 | apply z0 | apply p5 | apply y0 | apply z7)))
  have hB := @zY9 b1 b2 b3 b4 b5 b6 b7 b8 b9 b10 b11 (yy1 x0 i v)
  have oX := @yB7 b1 b2 b3 b4 b5 b6 b7 b8 b9 b10 b11 (yy1 x0 i v)
  have hfew := Plt.yn4 (yy1 x0 i v)
  clear hpU hpP hpa
  generalize yy1 x0 i v = x at hB oX hfew ⊢
  generalize exH b1 b2 b3 b4 b5 b6 b7 b8 b9 b10 b11 x = NX at hB oX ⊢
  generalize Plt.exP x = p at hB hfew
  dsimp only [zT3] at hB
  obtain ⟨va, kv, runs, hvf, hPP, hXP⟩ := yp6 p
  repeat' (first | (apply p9; exact rfl; exact dF_; exact rfl; exact rfl) | (apply k9; exact rfl; exact dF_) | ((first | ((apply f5 (f := 7)); exact rfl) | ((apply d6 (f := 7)); exact rfl; exact rfl; exact sJ_)); exact eV_; exact (fun w hw => zZ2 hfew w (hB _ _ _ _ (by exact rL_) hw)); rintro v NQ ⟨a1, c1, a2, c2, a3, c3, ds, ys, rfl, hQ, oQ⟩ <;> (try simp only [List.cons_append, List.nil_append, List.append_assoc])) | ((first | ((apply t8 (f := 13)); exact rfl) | ((apply t9 (f := 13)); exact rfl; kernel_rfl; exact rfl; exact sJ_)); exact eV_; exact (fun w hw => zL1 hvf w (hQ _ _ _ _ (by exact rL_) hw))) | ((first | ((apply t8 (f := 14)); exact rfl) | ((apply t9 (f := 14)); exact rfl; kernel_rfl; exact rfl; exact sJ_)); exact eV_; exact (fun w hw => zS8 hvf w (hB _ _ _ _ (by exact rL_) hw))) | ((first | ((apply f5 (f := 15)); exact rfl) | ((apply d6 (f := 15)); exact rfl; exact rfl; exact sJ_)); exact eV_; exact (fun w hw => hXP w _ (hQ _ _ _ _ (by exact rL_) hw)); rintro v NR ⟨ar, cr, rds, rfl, ⟨hR, hrl⟩, oR⟩ <;> (try simp only [List.cons_append, List.nil_append, List.append_assoc])) | ((first | ((apply f5 (f := 16)); exact rfl) | ((apply d6 (f := 16)); exact rfl; exact rfl; exact sJ_)); exact eV_; exact (fun w hw => hPP w _ (hB _ _ _ _ (by exact rL_) hw)); rintro v NS ⟨au, cu, sds, rfl, ⟨hS, hsl⟩, oS⟩ <;> (try simp only [List.cons_append, List.nil_append, List.append_assoc])) | ((first | ((apply t8 (f := 17)); exact rfl) | ((apply t9 (f := 17)); exact rfl; kernel_rfl; exact rfl; exact sJ_)); exact eV_; exact (fun w hw => yl2 w (hS _ _ _ _ (by exact rL_) hw) (hR _ _ _ _ (by exact rL_) hw))) | ((first | apply w9 | apply y8 | apply x8 | apply p4 | apply zr5 | apply n0); exact rfl; exact rfl) | (apply w7; first | refine u9 (h := ?_) | refine y9 (h := ?_) | refine w8 (h := ?_) | refine q6 (h := ?_) | refine q0 (h := ?_)) | ((first | apply p3 | apply d9 | apply l8 | apply p0); exact rfl; exact rfl; exact rfl) | (apply zd5; exact rfl; exact rfl) | (apply o7; exact rfl; intro _) | (apply q7; first | refine q8 (h := ?_) | refine q9 (h := ?_)) | (apply o9; infer_instance; exact rfl; exact rfl) | (apply m9; refine l9 (h := fun _ => ?_)) | ((first | apply s9 | apply x9 | apply z8 | apply s7 | apply s8 | apply w4 | apply z9 | apply w5)) | (apply v9; exact rfl; exact fF_) | ((first | apply w6 | apply z6 | apply z0 | apply p5 | apply y0 | apply z7)))
  rename_i bq bi
  apply j9 (σ := Nat) (Fs := fun m => [(100, .int .i64 m), (99, .int .i64 4), (98, slc bi 4), (7, ptr bq), (5, ptr bc), (30, .int .i64 k), (29, .int .i64 19), (28, slc b28 19), (2, .int .i64 50), (1, .int .i64 i)]) (Ls := fun m => ⟨bi, Ce (([1, 2, 5, 6] : List Int).flatMap encI) 3, true⟩ :: ⟨bq, Ce [.slice a1 p.ms.length c1, .slice a2 p.items.length c2, .slice a3 p.passes.length c3] 33, true⟩ :: ⟨bc, Ce [slc b3 1, slc b4 5, slc b9 2] 26, true⟩ :: ⟨b28, Ce (([-1, 0, 1, 2, 3, 4, 5, 6, 7, 11, 100, 101, 1000, 1001, 100001, 999999, 1000000, 1051898399, 1051898400] : List Int).flatMap encI) 3, true⟩ :: (NX ++ (NQ ++ []))) (I := fun m => m ≤ 4) (μ := fun m => 4 - m) (s0 := 0)
  · exact Nat.zero_le _
  · exact fS_
  · exact hS_
  intro m hm
  have hm : m ≤ 4 := hm
  by_cases hml : m < 4
  case neg =>
    obtain rfl : m = 4 := by omega
    repeat' (first | (apply v9; exact rfl; exact dF_) | ((first | apply w9 | apply y8 | apply x8 | apply p4 | apply zr5 | apply n0); exact rfl; exact rfl) | ((first | apply p3 | apply d9 | apply l8 | apply p0); exact rfl; exact rfl; exact rfl) | (apply j0; exact rfl; exact rfl; exact rfl; (constructor <;> omega)) | ((first | apply s9 | apply x9 | apply z8 | apply s7 | apply s8 | apply w4 | apply z9 | apply w5)) | ((first | apply w6 | apply z6 | apply z0 | apply p5 | apply y0 | apply z7)))
    refine o0 (k + 1) (show k + 1 ≤ 19 ∧ (i = 50 → k + 1 = 0) from ⟨by omega, by omega⟩) (show 19 - (k + 1) < 19 - k by omega) ?_ ?_
    · exact fS_
    · exact hS_
  obtain ⟨it, hit⟩ : ∃ it, ([1, 2, 5, 6] : List Int)[m]? = some it := ⟨_, List.getElem?_eq_getElem hml⟩
  repeat' (first | (apply v8; exact rfl; exact dT_) | ((apply zW7 (v := .int .i64 it)); infer_instance; exact rfl; (intro w' hw'; exact SV.cell1 (SV.lit ([1, 2, 5, 6] : List Int) j8 hw' (by exact aT_) rfl rfl (by decide)) hit rfl); exact rfl) | ((first | apply w9 | apply y8 | apply x8 | apply p4 | apply zr5 | apply n0); exact rfl; exact rfl) | ((first | apply p3 | apply d9 | apply l8 | apply p0); exact rfl; exact rfl; exact rfl) | (apply o9; infer_instance; exact rfl; exact rfl) | (apply m9; refine l9 (h := fun _ => ?_)) | (apply m8; infer_instance; infer_instance; exact rfl; exact rfl; (first | exact rfl | omega); exact rfl; (first | assumption | omega | decide)) | ((first | apply s9 | apply x9 | apply z8 | apply s7 | apply s8 | apply w4 | apply z9 | apply w5)) | ((first | apply w6 | apply z6 | apply z0 | apply p5 | apply y0 | apply z7)))
  rename_i bt
  apply j9 (σ := Nat) (Fs := fun j => [(106, .int .i64 j), (105, .int .i64 6), (104, slc bt 6), (17, .int .i64 it), (100, .int .i64 m), (99, .int .i64 4), (98, slc bi 4), (7, ptr bq), (5, ptr bc), (30, .int .i64 k), (29, .int .i64 19), (28, slc b28 19), (2, .int .i64 50), (1, .int .i64 i)]) (Ls := fun j => ⟨bt, Ce (([-1, 0, 2, 12, 15, 1051898400] : List Int).flatMap encI) 3, true⟩ :: ⟨bi, Ce (([1, 2, 5, 6] : List Int).flatMap encI) 3, true⟩ :: ⟨bq, Ce [.slice a1 p.ms.length c1, .slice a2 p.items.length c2, .slice a3 p.passes.length c3] 33, true⟩ :: ⟨bc, Ce [slc b3 1, slc b4 5, slc b9 2] 26, true⟩ :: ⟨b28, Ce (([-1, 0, 1, 2, 3, 4, 5, 6, 7, 11, 100, 101, 1000, 1001, 100001, 999999, 1000000, 1051898399, 1051898400] : List Int).flatMap encI) 3, true⟩ :: (NX ++ (NQ ++ []))) (I := fun j => j ≤ 6) (μ := fun j => 6 - j) (s0 := 0)
  · exact Nat.zero_le _
  · exact fS_
  · exact hS_
  intro j hj
  have hj : j ≤ 6 := hj
  by_cases hjl : j < 6
  case neg =>
    obtain rfl : j = 6 := by omega
    repeat' (first | (apply v9; exact rfl; exact dF_) | ((first | apply w9 | apply y8 | apply x8 | apply p4 | apply zr5 | apply n0); exact rfl; exact rfl) | ((first | apply p3 | apply d9 | apply l8 | apply p0); exact rfl; exact rfl; exact rfl) | (apply j0; exact rfl; exact rfl; exact rfl; (constructor <;> omega)) | ((first | apply s9 | apply x9 | apply z8 | apply s7 | apply s8 | apply w4 | apply z9 | apply w5)) | ((first | apply w6 | apply z6 | apply z0 | apply p5 | apply y0 | apply z7)))
    refine o0 (m + 1) (show m + 1 ≤ 4 by omega) (show 4 - (m + 1) < 4 - m by omega) ?_ ?_
    · exact fS_
    · exact hS_
  obtain ⟨t, ht⟩ : ∃ t, ([-1, 0, 2, 12, 15, 1051898400] : List Int)[j]? = some t := ⟨_, List.getElem?_eq_getElem hjl⟩
  obtain ⟨kd, ps, nu, kk, hkd, hPW, hXW⟩ := yi7 p it t
  have hwr := zA2 (z := kd) (by omega) (by omega)
  repeat' (first | (apply v8; exact rfl; exact dT_) | (apply v9; exact rfl; exact dF_) | (apply p9; exact rfl; exact dF_; exact rfl; exact rfl) | (apply k9; exact rfl; exact dF_) | ((apply zW7 (v := .int .i64 t)); infer_instance; exact rfl; (intro w' hw'; exact SV.cell1 (SV.lit ([-1, 0, 2, 12, 15, 1051898400] : List Int) j8 hw' (by exact aT_) rfl rfl (by decide)) ht rfl); exact rfl) | ((first | ((apply t8 (f := 8)); exact rfl) | ((apply t9 (f := 8)); exact rfl; kernel_rfl; exact rfl; exact sJ_)); exact eV_; exact (fun w hw => hXW w _ (hQ _ _ _ _ (by exact rL_) hw))) | ((first | ((apply t8 (f := 9)); exact rfl) | ((apply t9 (f := 9)); exact rfl; kernel_rfl; exact rfl; exact sJ_)); exact eV_; exact (fun w hw => hPW w _ (hB _ _ _ _ (by exact rL_) hw))) | ((first | apply w9 | apply y8 | apply x8 | apply p4 | apply zr5 | apply n0); exact rfl; exact rfl) | (apply w7; first | refine u9 (h := ?_) | refine y9 (h := ?_) | refine w8 (h := ?_) | refine q6 (h := ?_) | refine q0 (h := ?_)) | ((first | apply p3 | apply d9 | apply l8 | apply p0); exact rfl; exact rfl; exact rfl) | (apply j0; exact rfl; exact rfl; exact rfl; (constructor <;> omega)) | (apply o7; exact rfl; intro _) | (apply q7; first | refine q8 (h := ?_) | refine q9 (h := ?_)) | (apply m8; infer_instance; infer_instance; exact rfl; exact rfl; (first | exact rfl | omega); exact rfl; (first | assumption | omega | decide)) | ((first | apply s9 | apply x9 | apply z8 | apply s7 | apply s8 | apply w4 | apply z9 | apply w5)) | ((first | apply w6 | apply z6 | apply z0 | apply p5 | apply y0 | apply z7)))
  refine o0 (j + 1) (show j + 1 ≤ 6 by omega) (show 6 - (j + 1) < 6 - j by omega) ?_ ?_
  · exact fS_
  · exact hS_
end Go.Proofs.Ytdahckhlfldkkaa
namespace Go.Sx
open Go Go.RowKit
def Rz {H : Type} (enc : TypeId × Value → H) (P : Program) (w : World) (t : TypeId) (cs : List Value) : Prop := ∃ fuel d ps, DataW.trod enc P w 0 (fun _ => true) true fuel t cs = some (d, ps) ∧ ∀ n ∈ d.weights P t, n ≤ reachBytes
section
variable {H : Type} {enc : TypeId × Value → H} {P : Program} {w : World} {t : TypeId} {cs : List Value}
theorem Rz.of {v : Value} {d : DataW H} {ps : List MemPlace} (h : DataW.Trod enc P w 0 (fun _ => true) true t v d ps) (hs : ∀ n ∈ d.weights P t, n ≤ reachBytes) : Rz enc P w t v.cells.toList := h.elim fun f h => ⟨f, d, ps, h, hs⟩
theorem Rz.struct {fs : Array Field} (ht : P.underlying t = some (.struct fs)) (h : Rz enc P w t cs) : cs.length = P.cellsOf t ∧ ∀ (i : Nat) (f : Field), fs[i]? = some f → Rz enc P w f.type ((cs.drop f.offset).take (P.cellsOf f.type)) := by
  obtain ⟨f, d, ps, h, hz⟩ := h
  obtain ⟨xs, n, _, hx, hl, hlen, hf⟩ := DataW.trod_struct ht h
  have hd : d = .agg (xs.map (·.1)) := congrArg Prod.fst hx
  subst hd
  refine ⟨hl, fun i f hi => ?_⟩
  have hlt : i < xs.length := by rw [hlen]; exact (Array.getElem?_eq_some_iff.1 hi).1
  refine ⟨n, (xs[i]).1, (xs[i]).2, by rw [hf i f hi]; exact List.getElem?_eq_getElem hlt, fun m hm => hz m ?_⟩
  rw [DataW.weights, ht]
  refine DataW.weights_mem_each (j := i) (t := f.type) (d := (xs[i]).1) ?_ ?_ m hm
  · rw [List.getElem?_map, Array.getElem?_toList, hi]; rfl
  · rw [List.getElem?_map, List.getElem?_eq_getElem hlt]; rfl
theorem zr6 {e : TypeId} {d : DataW H} : ∀ {l : List (DataW H)}, d ∈ l → ∀ n ∈ d.weights P e, n ∈ DataW.weightsAll P e l
  | x :: l, h, n, hn => by
    rw [DataW.weightsAll]
    rcases List.mem_cons.1 h with rfl | h
    · exact List.mem_append_left _ hn
    · exact List.mem_append_right _ (zr6 h n hn)
theorem Rz.slice {e : TypeId} {k by' : Nat} (ht : P.underlying t = some (.slice e)) (hk : P.cellsOf e = k) (hby : P.bytesOf e = by') (h : Rz enc P w t cs) : cs = [.slice none 0 0] ∨
    ∃ (a : Addr) (len cap : Nat), cs = [.slice (some a) len cap] ∧ len ≤ cap ∧ cap ≤ maxLen ∧ (∀ i, i < cap → ∃ l, w.cells? 0 (a.add (i * k)) k = some l ∧ Rz enc P w e l) ∧ cap * by' ≤ 140737488351232 := by
  subst hk hby
  obtain ⟨f, d, ps, h, hz⟩ := h
  rcases DataW.trod_slice ht h with h0 | ⟨a, len, cap, elems, rest, n, _, h1, hx, _, h2, h3, h4, h5, h6, _⟩
  · exact .inl h0.1
  obtain ⟨g1, g2⟩ := h6 rfl
  have hd : d = .slice (elems.map (·.1)) (rest.map (·.1)) := congrArg Prod.fst hx
  subst hd
  rw [DataW.weights, ht] at hz
  have hel : ∀ x ∈ elems ++ rest, ∀ m ∈ x.1.weights P e, m ≤ reachBytes := fun x hx m hm => hz m (List.mem_cons_of_mem _ (by
    rcases List.mem_append.1 hx with hx | hx
    · exact List.mem_append_left _ (zr6 (List.mem_map_of_mem hx) m hm)
    · exact List.mem_append_right _ (zr6 (List.mem_map_of_mem hx) m hm)))
  have hb0 := hz _ (List.mem_cons_self ..)
  rw [List.length_map, List.length_map, h4, g1, show len + (cap - len) = cap by omega] at hb0
  refine .inr ⟨a, len, cap, h1, h2, h3, fun i hi => ?_, hb0⟩
  have hb : ∃ y, y ∈ elems ++ rest ∧ (w.cells? 0 (a.add (i * P.cellsOf e)) (P.cellsOf e)).bind (DataW.trod enc P w 0 (fun _ => true) true n e) = some y := by
    by_cases hl : i < len
    · exact ⟨elems[i]'(by omega), List.mem_append_left _ (List.getElem_mem _), by rw [h5 i hl]; exact List.getElem?_eq_getElem _⟩
    · have := g2 (i - len) (by omega)
      rw [show len + (i - len) = i from by omega] at this
      exact ⟨rest[i - len]'(by omega), List.mem_append_right _ (List.getElem_mem _), by rw [this]; exact List.getElem?_eq_getElem _⟩
  obtain ⟨y, hm, hy⟩ := hb
  obtain ⟨l, hl1, hl2⟩ := Option.bind_eq_some_iff.1 hy
  exact ⟨l, hl1, n, y.1, y.2, hl2, hel y hm⟩
end
end Go.Sx
namespace Go.Proofs.Ytdahckhlfldkkaa
open Go Go.ChangeShapes Go.WideShapes Go.ChangeAt Go.RowKit Go.Sx
theorem own : ownKnob Try.prog.godebug = none := by kernel_rfl
section
variable {H : Type} {enc : TypeId × Value → H} {w : World}
def yM4 (w : World) (d : MD) (m : Plt.zb6) : Prop := MachV w d m ∧ m.caps.length ≤ 17592186044416 ∧ m.shifts.length ≤ 17592186044416
def yM5 (w : World) (d : PD) (y : Plt.za3) : Prop := PassV w d y ∧ y.src.length ≤ 17592186044416 ∧ y.table.length ≤ 17592186044416 ∧ y.unread.length ≤ 17592186044416
end
end Go.Proofs.Ytdahckhlfldkkaa
namespace Go.Proofs.Ytdahckhlfldkkaa
open Go Go.ChangeShapes Go.WideShapes Go.ChangeAt Go.RowKit Go.Sx
set_option maxRecDepth 100000 in
theorem zI1 (os : Os) (started : os.Started) (H : Type) (enc : TypeId × Value → H) :
    ReturnsInHanded {} Try.checked os 4 .any (Rows.plantSmallSpec.pre6 enc Try.prog Try.f4 Rows.plantSmallRow.domain false) (Rows.plantSmallSpec.post enc Try.prog Try.f4 false true false false) := by
  refine returnsInHanded_of_change (C := Try.checked) own started (by kernel_rfl) Try.func4
    (ChangeSpec.witness6 (enc := enc) (C := Try.checked) false ⟨#[], #[], []⟩ 8 (by kernel_rfl) (by kernel_rfl) (by kernel_rfl) (by kernel_rfl)) ?_
  intro W base args ds gs before hval0 hW hcnd _
  have hval : ∀ (j : Nat) t v, Try.f4.params[j]? = some t → args[j]? = some v → Value.okWide Try.prog W .any base t v := hval0
  have hW' := hW
  obtain ⟨p, q, hA0, hV, rfl, hfz, hnd⟩ := hW
  have hA : DataW.TrodAll enc Try.prog W 0 (fun _ => true) true Try.f4.params.toList args.toList ds p := hA0
  rw [Try.params4] at hA hval
  obtain ⟨hargs, rfl, rfl⟩ := trodAll_nil hA
  obtain rfl : args = #[] := by cases args; simp_all
  obtain ⟨rfl, rfl⟩ := trodVars_none hV
  clear hA0 hval0
  refine (zK7 W).mono fun e W' ⟨he, bel⟩ => ?_
  subst he
  exact ⟨_, rfl, _, _, _, [], _, [], hW', trodAll_mk1 (shut_bool Try.underlying4 _), trodAll_mk0, rfl, bel.frame _, fun h => by cases h⟩
theorem plantSmall_proved : Rows.PlantSmallSaid :=
  OpenClaim.holds_of_wide 4 Try.f4 rfl rfl rfl rfl rfl rfl rfl ⟨rfl, rfl, rfl, rfl, rfl⟩ rfl rfl rfl rfl rfl (by kernel_rfl) Try.func4 (by kernel_rfl)
    (of_decide_eq_true (by kernel_rfl)) (by unfold Func.isWrapper; first | (rw [if_pos (by decide +kernel)]; kernel_rfl) | (rw [if_neg (by decide +kernel)]; exact ⟨rfl, rfl⟩))
    (fun os started H enc _ => zI1 os started H enc)
end Go.Proofs.Ytdahckhlfldkkaa
