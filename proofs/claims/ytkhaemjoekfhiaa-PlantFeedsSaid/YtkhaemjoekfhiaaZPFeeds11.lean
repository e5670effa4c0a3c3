/- A part of the proofs of this seat: a small logic of walks, plain laws, and what some of the program's functions compute, shown by walks through their code. Conditions: the hypotheses that each theorem names. -/
import Derived.Test.YtkhaemjoekfhiaaZPFeeds3
import Derived.Test.YtkhaemjoekfhiaaZPFeeds10
import Derived.Test.YtkhaemjoekfhiaaZPFeeds9
import Derived.Test.YtkhaemjoekfhiaaZPFeeds8
set_option linter.unusedSimpArgs false
set_option linter.unusedVariables false
set_option linter.unusedSectionVars false
namespace Go.Sx.Plt
def ofBatch (items : List Item) (s : Int × Int) : List Int := if s.1 = 0 then (items.filter fun x => x.batch = s.2).map Item.id else []
def ofRun (s : Int × Int) (r : Run) : List Int := if r.pass = s.1 ∧ s.2 < r.res.stackers.length then r.res.stackers.getD s.2.toNat [] else []
/-- The items of some sources. -/
def takenF (items : List Item) (runs : List Run) (src : List (Int × Int)) : List Int := src.flatMap fun s => ofBatch items s ++ runs.flatMap (ofRun s)
theorem takenF_snoc {items : List Item} {runs : List Run} {src : List (Int × Int)} {i : Nat} {s : Int × Int} (h : src[i]? = some s) : takenF items runs (src.take (i + 1)) = takenF items runs (src.take i) ++ (ofBatch items s ++ runs.flatMap (ofRun s)) := by
  rw [Go.Proofs.Ytkhaemjoekfhiaa.take_snoc h, takenF, takenF, List.flatMap_append]; simp
theorem ofBatch_snoc {items : List Item} {s : Int × Int} {j : Nat} {x : Item} (h : items[j]? = some x) : ofBatch (items.take (j + 1)) s = ofBatch (items.take j) s ++ if s.1 = 0 ∧ x.batch = s.2 then [x.id] else [] := by
  rw [Go.Proofs.Ytkhaemjoekfhiaa.take_snoc h]
  unfold ofBatch
  by_cases h0 : s.1 = 0
  · rw [if_pos h0, if_pos h0, List.filter_append, List.map_append]
    by_cases h1 : x.batch = s.2
    · rw [if_pos ⟨h0, h1⟩]; simp [h1]
    · rw [if_neg (fun e => h1 e.2)]; simp [h1]
  · rw [if_neg h0, if_neg h0, if_neg (fun e => h0 e.1)]; rfl
theorem flatMap_snoc' {α β : Type} {l : List α} {j : Nat} {x : α} (f : α → List β) (h : l[j]? = some x) : (l.take (j + 1)).flatMap f = (l.take j).flatMap f ++ f x := by
  rw [Go.Proofs.Ytkhaemjoekfhiaa.take_snoc h, List.flatMap_append]; simp
theorem takenF_len {items : List Item} {runs : List Run} {src : List (Int × Int)} {M : Nat} (h : (takenF items runs src).length ≤ M) {i : Nat} {s : Int × Int} (hs : src[i]? = some s) (j n : Nat) :
    (takenF items runs (src.take i)).length + (ofBatch (items.take j) s).length ≤ M ∧ (takenF items runs (src.take i)).length + (ofBatch items s).length + ((runs.take n).flatMap (ofRun s)).length ≤ M := by
  have e1 := takenF_snoc (items := items) (runs := runs) hs
  have e2 : takenF items runs src = takenF items runs (src.take (i + 1)) ++ takenF items runs (src.drop (i + 1)) := by
    rw [takenF, takenF, takenF, ← List.flatMap_append, List.take_append_drop]
  have e3 : (runs.flatMap (ofRun s)).length = ((runs.take n).flatMap (ofRun s)).length + ((runs.drop n).flatMap (ofRun s)).length := by rw [← List.length_append, ← List.flatMap_append, List.take_append_drop]
  have e4 : (ofBatch (items.take j) s).length ≤ (ofBatch items s).length := by
    unfold ofBatch
    by_cases h0 : s.1 = 0
    · rw [if_pos h0, if_pos h0, List.length_map, List.length_map]
      exact (List.Sublist.filter _ (List.take_sublist j items)).length_le
    · rw [if_neg h0, if_neg h0]; exact Nat.le_refl _
  have := congrArg List.length e1
  have := congrArg List.length e2
  simp only [List.length_append] at *
  omega
end Go.Sx.Plt
namespace Go.Proofs.Ytkhaemjoekfhiaa
open Go Go.Sx Go.RowKit
attribute [local irreducible] WL WC WQ WR WB WF QB St Exit.then Exit.inBlock Exit.noGoto bodyPost roundPost beginK YR RG BM Calls B AgainD MeetD
/-! ## the items of the sources of a pass -/
def takenφ (T : List Int) (v : Value) (N : List Ent) : Prop := ∃ a c, v = .slice a T.length c ∧ OW 3 1 encI (.slice a T.length c) T N
set_option maxHeartbeats 8000000 in
set_option maxRecDepth 100000 in
theorem taken_calls {q : PlD} {p : Plt.Plant} {k : Nat} {y : Plt.Pass} {ar : Option Addr} {cr : Nat} {rds : List RD} {runs : List Plt.Run} {T : List Int} (hy : p.passes[k]? = some y) (hkr : k ≤ runs.length) (hsn : ∀ s ∈ y.src, 0 ≤ s.2) (hT : Plt.takenF p.items (runs.take k) y.src = T) (hTl : T.length ≤ 1000000)
    (w : World) (h : PlV w q p) (hr : RunsV w (.slice ar runs.length cr) rds runs) : Calls Try.prog 21 #[plV q, .slice ar runs.length cr, .int .i64 k] w fun e w' => ∃ v N, e = .returned v ∧ takenφ T v N ∧ Rep w w' N ∧ ∀ x ∈ N, x.own = true := by
  obtain ⟨⟨a1_, n1, c1⟩, ⟨a2, n2, c2⟩, ⟨a3, n3, c3⟩, dms, ys⟩ := q
  obtain ⟨hM, hI, hP, lm, lp, hmach, hpass⟩ := h
  dsimp only [sdV, plV] at hM hI hP lm lp hmach hpass ⊢
  obtain ⟨_, _, e1, hc1, _⟩ := hM.open
  cases e1
  obtain ⟨_, _, e2, hc2, hop2⟩ := hI.open
  cases e2
  obtain ⟨_, _, e3, hc3, hop3⟩ := hP.open
  cases e3
  rw [lm] at hM hc1 ⊢
  rw [lp] at hP hop3 hc3 ⊢
  obtain ⟨hRs, hRl, hRv⟩ := hr
  obtain ⟨_, _, e4, hc4, hop4⟩ := hRs.open
  simp only [Value.slice.injEq] at e4
  obtain ⟨rfl, -, rfl⟩ := e4
  have hkl : k < p.passes.length := (List.getElem?_eq_some_iff.1 hy).1
  obtain ⟨⟨pid, pma, pre, ⟨v1, w1, u1⟩, ⟨v2, w2, u2⟩, ⟨v3, w3, u3⟩⟩, hpd⟩ : ∃ d, ys[k]? = some d := ⟨_, List.getElem?_eq_getElem (by omega)⟩
  have hpv := hpass k _ y hpd hy
  have hF := hpv.src
  dsimp only [sdV] at hF
  obtain ⟨_, _, e5, hc5, hop5⟩ := hF.open
  cases e5
  subst hT
  have hlens := fun (i : Nat) (s : Int × Int) (hs : y.src[i]? = some s) => Plt.takenF_len (items := p.items) (runs := runs.take k) (M := 1000000) hTl hs
  refine f_enter3 Try.func21 rfl Try.ntmps21 rfl (Rep.start w) ?_
  obtain ⟨b, off, cc, e, fz, rfl, hk, hpt⟩ := hop3 (by omega)
  have g1 : ∀ j u, ([.int .i64 pid, .int .i64 pma, .int .i64 pre, .slice v1 y.src.length u1, .slice v2 w2 u2, .slice v3 w3 u3] : List Value)[j]? = some u → cc[off + k * 6 + j]? = some u := hpt.get hpd
  repeat' (first | ((with_reducible first | apply o_move | apply o_assign | apply o_faddr0); exact rfl; exact rfl) | ((with_reducible apply o_faddr); exact rfl; exact rfl) | ((with_reducible apply gdo_load); first | refine wo_load (h := ?_) | refine wo_loadAll (h := ?_) | refine wo_loadC (h := ?_) | refine wo_ldV (h := ?_) | refine wo_ldF (h := ?_)) | ((with_reducible apply o_box); exact rfl; exact rfl; exact rfl; intro _) | ((with_reducible apply o_len); infer_instance; exact rfl; exact rfl) | ((with_reducible apply o_idx); infer_instance; infer_instance; exact rfl; exact rfl; (first | exact rfl | omega); exact rfl; (first | assumption | omega | decide)) | ((with_reducible first | apply c_seq | apply c_block | apply c_region | apply c_nil | apply c_ret | apply c_exit | apply c_skip)) | ((with_reducible first | apply e_then | apply e_then_ret | apply e_then_exit | apply e_in | apply e_in_ret | apply e_in_same)))
  rename_i b3
  apply c_loop (σ := Nat × (Option Addr × Nat) × List Ent) (Fs := fun t => [(21, .int .i64 t.1), (20, .int .i64 y.src.length), (19, .slice v1 y.src.length u1), (7, .slice t.2.1.1 (Plt.takenF p.items (runs.take k) (y.src.take t.1)).length t.2.1.2), (3, ptr b3), (1, .slice ar runs.length cr), (2, .int .i64 k)])
    (Ls := fun t => t.2.2 ++ (⟨b3, Ce [.slice a1_ p.ms.length c1, .slice a2 p.items.length c2, .slice (some ⟨b, off, none⟩) p.passes.length c3] 29, true⟩ :: []))
    (I := fun t => t.1 ≤ y.src.length ∧ OW 3 1 encI (.slice t.2.1.1 (Plt.takenF p.items (runs.take k) (y.src.take t.1)).length t.2.1.2) (Plt.takenF p.items (runs.take k) (y.src.take t.1)) t.2.2) (μ := fun t => y.src.length - t.1) (s0 := (0, (none, 0), []))
  · exact ⟨Nat.zero_le _, OW.nil⟩
  · exact fS_
  · exact hS_
  rintro ⟨i, ⟨ao, co⟩, N⟩ ⟨hi, hO⟩
  dsimp only at hi hO ⊢
  have oN := hO.own
  by_cases hlt : i < y.src.length
  · obtain ⟨⟨s1, s2⟩, hx⟩ : ∃ s, y.src[i]? = some s := ⟨_, List.getElem?_eq_getElem hlt⟩
    have hs2 := hsn _ (List.mem_of_getElem? hx)
    dsimp only at hs2
    obtain ⟨b', off', cc', e', fz', rfl, hk', hpt'⟩ := hop5 (by omega)
    have g2 : ∀ j u, ([.int .i64 s1, .int .i64 s2] : List Value)[j]? = some u → cc'[off' + i * 2 + j]? = some u := hpt'.get hx
    have hl := hlens i _ hx
    have hsn1 := Plt.takenF_snoc (items := p.items) (runs := runs.take k) hx
    generalize Plt.takenF p.items (runs.take k) (y.src.take i) = L0 at hO hl hsn1 ⊢
    repeat' (first | ((with_reducible apply c_cond_t); exact rfl; exact decide_eq_true (by omega)) | ((with_reducible first | apply o_move | apply o_assign | apply o_faddr0); exact rfl; exact rfl) | ((with_reducible apply gdo_load); first | refine wo_load (h := ?_) | refine wo_loadAll (h := ?_) | refine wo_loadC (h := ?_) | refine wo_ldV (h := ?_) | refine wo_ldF (h := ?_)) | ((with_reducible first | apply o_lss | apply o_eql); exact rfl; exact rfl; exact rfl) | ((with_reducible apply o_alloc); exact rfl; intro _) | ((with_reducible apply gdo_store); first | refine wo_store1 (h := ?_) | refine wo_storeA (h := ?_)) | ((with_reducible apply o_len); infer_instance; exact rfl; exact rfl) | ((with_reducible apply o_idx); infer_instance; infer_instance; exact rfl; exact rfl; (first | exact rfl | omega); exact rfl; (first | assumption | omega | decide)) | ((with_reducible first | apply c_seq | apply c_block | apply c_region | apply c_nil | apply c_ret | apply c_exit | apply c_skip)) | ((with_reducible first | apply e_then | apply e_then_ret | apply e_then_exit | apply e_in | apply e_in_ret | apply e_in_same)))
    rename_i b9
    apply c_loop (σ := Nat × (Option Addr × Nat) × List Ent) (Fs := fun t => [(28, .int .i64 t.1), (27, .int .i64 p.items.length), (26, .slice a2 p.items.length c2), (9, ptr b9), (21, .int .i64 i), (20, .int .i64 y.src.length), (19, .slice (some ⟨b', off', none⟩) y.src.length u1), (7, .slice t.2.1.1 (L0 ++ Plt.ofBatch (p.items.take t.1) (s1, s2)).length t.2.1.2), (3, ptr b3), (1, .slice ar runs.length cr), (2, .int .i64 k)])
      (Ls := fun t => ⟨b9, Ce [.int .i64 s1, .int .i64 s2] 64, true⟩ :: (t.2.2 ++ (⟨b3, Ce [.slice a1_ p.ms.length c1, .slice a2 p.items.length c2, .slice (some ⟨b, off, none⟩) p.passes.length c3] 29, true⟩ :: [])))
      (I := fun t => t.1 ≤ p.items.length ∧ OW 3 1 encI (.slice t.2.1.1 (L0 ++ Plt.ofBatch (p.items.take t.1) (s1, s2)).length t.2.1.2) (L0 ++ Plt.ofBatch (p.items.take t.1) (s1, s2)) t.2.2) (μ := fun t => p.items.length - t.1) (s0 := (0, (ao, co), N))
    · exact ⟨Nat.zero_le _, by dsimp only; rw [show Plt.ofBatch (p.items.take 0) (s1, s2) = [] from by simp [Plt.ofBatch], List.append_nil]; exact hO⟩
    · (try dsimp only); rw [show Plt.ofBatch (p.items.take 0) (s1, s2) = [] from by simp [Plt.ofBatch], List.append_nil]; exact fS_
    · exact hS_
    clear hO oN
    rintro ⟨j, ⟨ao, co⟩, N⟩ ⟨hj, hO⟩
    dsimp only at hj hO ⊢
    have oN := hO.own
    by_cases hlt2 : j < p.items.length
    · obtain ⟨⟨xi, xs, xb⟩, hz⟩ : ∃ s, p.items[j]? = some s := ⟨_, List.getElem?_eq_getElem hlt2⟩
      obtain ⟨b2, off2, cc2, e2, fz2, rfl, hk2, hpt2⟩ := hop2 (by omega)
      have g3 : ∀ j' u, ([.int .i64 xi, .int .i64 xs, .int .i64 xb] : List Value)[j']? = some u → cc2[off2 + j * 3 + j']? = some u := hpt2.get hz
      have hl2 := (hl j 0).1
      have hob := Plt.ofBatch_snoc (s := (s1, s2)) hz
      dsimp only at hob
      rw [← List.length_append] at hl2
      by_cases hcc : s1 = 0 ∧ xb = s2
      · rw [if_pos hcc] at hob
        rw [show L0 ++ Plt.ofBatch (p.items.take j) (s1, s2) = L0 ++ Plt.ofBatch (p.items.take j) (s1, s2) from rfl] at hO
        have hob2 : L0 ++ Plt.ofBatch (p.items.take (j + 1)) (s1, s2) = (L0 ++ Plt.ofBatch (p.items.take j) (s1, s2)) ++ [xi] := by rw [hob, List.append_assoc]
        generalize L0 ++ Plt.ofBatch (p.items.take j) (s1, s2) = L1 at hO hl2 hob2 ⊢
        as_aux_lemma =>
          repeat' (first | ((with_reducible apply c_cond_t); exact rfl; exact decide_eq_true (by omega)) | ((with_reducible apply o_pick_t); exact rfl; exact decide_eq_true (by omega); exact rfl; exact rfl) | ((with_reducible apply g_run); exact rfl; exact decide_eq_true (by omega)) | (apply o_appH (enc := encI) (ys := [(xi)]); infer_instance; infer_instance; infer_instance; exact rfl; exact encI_len; exact encI_one; exact rfl; exact rfl; exact rfl; assumption; exact rL_; (exact fun w hw => SV.lit [(xi)] encI_len hw (by exact aT_) rfl rfl (by decide)); (first | decide | (constructor <;> (try simp only [List.length_cons, List.length_nil]) <;> omega) | (constructor <;> simp <;> omega)); intro a_ cp_ N_ hO_; have oN_ := hO_.own; (try simp only [List.nil_append, List.append_assoc] at hO_); (try simp only [List.append_eq, List.append_assoc, List.cons_append, List.nil_append])) | ((with_reducible first | apply o_move | apply o_assign | apply o_faddr0); exact rfl; exact rfl) | ((with_reducible apply gdo_load); first | refine wo_load (h := ?_) | refine wo_loadAll (h := ?_) | refine wo_loadC (h := ?_) | refine wo_ldV (h := ?_) | refine wo_ldF (h := ?_)) | ((with_reducible first | apply o_lss | apply o_eql); exact rfl; exact rfl; exact rfl) | ((with_reducible apply o_add); exact rfl; exact rfl; exact rfl; (constructor <;> omega)) | ((with_reducible apply o_alloc); exact rfl; intro _) | ((with_reducible apply gdo_store); first | refine wo_store1 (h := ?_) | refine wo_storeA (h := ?_)) | ((with_reducible apply gdo_buildSlice); refine wo_buildSlice (h := fun _ => ?_)) | ((with_reducible apply o_idx); infer_instance; infer_instance; exact rfl; exact rfl; (first | exact rfl | omega); exact rfl; (first | assumption | omega | decide)) | ((with_reducible first | apply c_seq | apply c_block | apply c_region | apply c_nil | apply c_ret | apply c_exit | apply c_skip)) | ((with_reducible first | apply e_then | apply e_then_ret | apply e_then_exit | apply e_in | apply e_in_ret | apply e_in_same)))
          refine l_again (j + 1, (a_, cp_), N_) ⟨by dsimp only; omega, by dsimp only; rw [hob2]; exact hO_⟩ (by dsimp only; omega) ?_ ?_
          · (try dsimp only); rw [hob2]; exact fS_
          · exact hS_
      · rw [if_neg hcc, List.append_nil] at hob
        as_aux_lemma =>
          repeat' (first | ((with_reducible apply c_cond_t); exact rfl; exact decide_eq_true (by omega)) | ((with_reducible apply c_cond_f); exact rfl; exact decide_eq_false (by omega)) | ((with_reducible apply o_pick_t); exact rfl; exact decide_eq_true (by omega); exact rfl; exact rfl) | ((with_reducible apply o_pick_f); exact rfl; exact decide_eq_false (by omega); exact rfl; exact rfl) | ((with_reducible apply g_run); exact rfl; exact decide_eq_true (by omega)) | ((with_reducible apply g_skip); exact rfl; exact decide_eq_false (by omega); exact rfl) | ((with_reducible first | apply o_move | apply o_assign | apply o_faddr0); exact rfl; exact rfl) | ((with_reducible apply gdo_load); first | refine wo_load (h := ?_) | refine wo_loadAll (h := ?_) | refine wo_loadC (h := ?_) | refine wo_ldV (h := ?_) | refine wo_ldF (h := ?_)) | ((with_reducible first | apply o_lss | apply o_eql); exact rfl; exact rfl; exact rfl) | ((with_reducible apply o_add); exact rfl; exact rfl; exact rfl; (constructor <;> omega)) | ((with_reducible apply o_alloc); exact rfl; intro _) | ((with_reducible apply gdo_store); first | refine wo_store1 (h := ?_) | refine wo_storeA (h := ?_)) | ((with_reducible apply o_idx); infer_instance; infer_instance; exact rfl; exact rfl; (first | exact rfl | omega); exact rfl; (first | assumption | omega | decide)) | ((with_reducible first | apply c_seq | apply c_block | apply c_region | apply c_nil | apply c_ret | apply c_exit | apply c_skip)) | ((with_reducible apply c_cond_f); exact rfl; exact fF_) | ((with_reducible first | apply e_then | apply e_then_ret | apply e_then_exit | apply e_in | apply e_in_ret | apply e_in_same)) | ((with_reducible apply g_split_d); exact rfl; intro hcond; rotate_left; intro hcond; rotate_left))
          all_goals try (exfalso; omega)
          all_goals
            refine l_again (j + 1, (ao, co), N) ⟨by dsimp only; omega, by dsimp only; rw [hob]; exact hO⟩ (by dsimp only; omega) ?_ ?_
            · (try dsimp only); rw [hob]; exact fS_
            · exact hS_
    obtain rfl : j = p.items.length := by omega
    rw [List.take_length] at hO ⊢
    have hl3 := fun n => (hl 0 n).2
    rw [← List.length_append] at hl3
    rw [← List.append_assoc] at hsn1
    generalize L0 ++ Plt.ofBatch p.items (s1, s2) = L1 at hO hl3 hsn1 ⊢
    repeat' (first | ((with_reducible apply c_cond_f); exact rfl; exact decide_eq_false (by omega)) | ((with_reducible apply o_sliceH (h' := k)); infer_instance; infer_instance; exact rfl; exact rfl; (exact .inr ⟨_, rfl⟩); omega; exact rfl) | ((with_reducible first | apply o_move | apply o_assign | apply o_faddr0); exact rfl; exact rfl) | ((with_reducible first | apply o_lss | apply o_eql); exact rfl; exact rfl; exact rfl) | ((with_reducible apply o_len); infer_instance; exact rfl; exact rfl) | ((with_reducible first | apply c_seq | apply c_block | apply c_region | apply c_nil | apply c_ret | apply c_exit | apply c_skip)) | ((with_reducible first | apply e_then | apply e_then_ret | apply e_then_exit | apply e_in | apply e_in_ret | apply e_in_same)))
    apply c_loop (σ := Nat × (Option Addr × Nat) × List Ent) (Fs := fun t => [(52, .int .i64 t.1), (51, .int .i64 k), (50, .slice ar k cr), (9, ptr b9), (21, .int .i64 i), (20, .int .i64 y.src.length), (19, .slice (some ⟨b', off', none⟩) y.src.length u1), (7, .slice t.2.1.1 (L1 ++ (runs.take t.1).flatMap (Plt.ofRun (s1, s2))).length t.2.1.2), (3, ptr b3), (1, .slice ar runs.length cr), (2, .int .i64 k)])
      (Ls := fun t => ⟨b9, Ce [.int .i64 s1, .int .i64 s2] 64, true⟩ :: (t.2.2 ++ (⟨b3, Ce [.slice a1_ p.ms.length c1, .slice a2 p.items.length c2, .slice (some ⟨b, off, none⟩) p.passes.length c3] 29, true⟩ :: [])))
      (I := fun t => t.1 ≤ k ∧ OW 3 1 encI (.slice t.2.1.1 (L1 ++ (runs.take t.1).flatMap (Plt.ofRun (s1, s2))).length t.2.1.2) (L1 ++ (runs.take t.1).flatMap (Plt.ofRun (s1, s2))) t.2.2) (μ := fun t => k - t.1) (s0 := (0, (ao, co), N))
    · exact ⟨Nat.zero_le _, by dsimp only; rw [List.take_zero, List.flatMap_nil, List.append_nil]; exact hO⟩
    · (try dsimp only); rw [List.take_zero, List.flatMap_nil, List.append_nil]; exact fS_
    · exact hS_
    clear hO oN
    rintro ⟨j, ⟨ao, co⟩, N⟩ ⟨hj, hO⟩
    dsimp only at hj hO ⊢
    have oN := hO.own
    by_cases hlt2 : j < k
    · obtain ⟨r, hz⟩ : ∃ s, runs[j]? = some s := ⟨_, List.getElem?_eq_getElem (by omega)⟩
      obtain ⟨d, hd⟩ : ∃ s, rds[j]? = some s := ⟨_, List.getElem?_eq_getElem (by omega)⟩
      have hv := hRv j d r hd hz
      obtain ⟨hvp, -, -, -, -, ⟨ss, hv1, hv2⟩, -, -⟩ := hv
      obtain ⟨dp, ds', df, ⟨x1, n1, k1⟩, ⟨x2, n2, k2⟩, ⟨x3, n3, k3⟩, ⟨x4, n4, k4⟩, ⟨x5, n5, k5⟩, ⟨x6, n6, k6⟩, ⟨x7, n7, k7⟩⟩ := d
      dsimp only [sdV] at hvp hv1 hv2
      obtain ⟨_, _, e6, hc6, hop6⟩ := hv1.open
      cases e6
      have hsl := hv2.1
      obtain ⟨b2, off2, cc2, e2, fz2, rfl, hk2, hpt2⟩ := hop4 (by omega)
      have g3 : ∀ j' u, ([.int .i64 dp, .int .i64 ds', .int .i64 df, .slice x1 n1 k1, .slice x2 n2 k2, .slice x3 ss.length k3, .slice x4 n4 k4, .slice x5 n5 k5, .slice x6 n6 k6, .slice x7 n7 k7] : List Value)[j']? = some u → cc2[off2 + j * 10 + j']? = some u := hpt2.get hd
      have hl2 := hl3 j
      rw [List.take_take, Nat.min_eq_left (by omega), ← List.length_append] at hl2
      have hob := Plt.flatMap_snoc' (Plt.ofRun (s1, s2)) hz
      by_cases hcc : r.pass = s1 ∧ s2 < r.res.stackers.length
      · have hor : Plt.ofRun (s1, s2) r = r.res.stackers.getD s2.toNat [] := by unfold Plt.ofRun; rw [if_pos hcc]
        obtain ⟨n, rfl⟩ := Int.eq_ofNat_of_zero_le hs2
        obtain ⟨l, hy2⟩ : ∃ l, r.res.stackers[n]? = some l := ⟨_, List.getElem?_eq_getElem (by omega)⟩
        obtain ⟨⟨sa, sn, sc⟩, hx2⟩ : ∃ s, ss[n]? = some s := ⟨_, List.getElem?_eq_getElem (by omega)⟩
        have hsv := hv2.2 n _ _ hx2 hy2
        dsimp only [sdV] at hsv
        obtain ⟨b6, off6, cc6, e6, fz6, rfl, hk6, hpt6⟩ := hop6 (by omega)
        have g4 : cc6[off6 + n * 1]? = some (.slice sa sn sc) := hpt6.one hx2 rfl
        rw [hor, show ((n : Int)).toNat = n from rfl, show r.res.stackers.getD n [] = l from by simp [List.getD_eq_getElem?_getD, hy2]] at hob
        have hl4 := hl3 (j + 1)
        rw [List.take_take, Nat.min_eq_left (by omega), ← List.length_append] at hl4
        have hob2 := congrArg (fun z => L1 ++ z) hob
        rw [← List.append_assoc] at hob2
        rw [hob2, List.length_append] at hl4
        generalize L1 ++ (runs.take j).flatMap (Plt.ofRun (s1, (n : Int))) = L2 at hO hl2 hl4 hob2 ⊢
        as_aux_lemma =>
          repeat' (first | ((with_reducible apply c_cond_t); exact rfl; exact decide_eq_true (by omega)) | ((with_reducible apply o_pick_t); exact rfl; exact decide_eq_true (by omega); exact rfl; exact rfl) | ((with_reducible apply g_run); exact rfl; exact decide_eq_true (by omega)) | (apply o_appH (enc := encI); infer_instance; infer_instance; infer_instance; exact rfl; exact encI_len; exact encI_one; exact rfl; exact rfl; exact rfl; assumption; exact rL_; (exact fun w hw => (hsv.keep hw (by exact aO_))); (first | decide | (constructor <;> (try simp only [List.length_cons, List.length_nil]) <;> omega) | (constructor <;> simp <;> omega)); intro a_ cp_ N_ hO_; have oN_ := hO_.own; (try simp only [List.nil_append, List.append_assoc] at hO_); (try simp only [List.append_eq, List.append_assoc, List.cons_append, List.nil_append])) | ((with_reducible first | apply o_move | apply o_assign | apply o_faddr0); exact rfl; exact rfl) | ((with_reducible apply o_faddr); exact rfl; exact rfl) | ((with_reducible apply gdo_load); first | refine wo_load (h := ?_) | refine wo_loadAll (h := ?_) | refine wo_loadC (h := ?_) | refine wo_ldV (h := ?_) | refine wo_ldF (h := ?_)) | ((with_reducible first | apply o_lss | apply o_eql); exact rfl; exact rfl; exact rfl) | ((with_reducible apply o_add); exact rfl; exact rfl; exact rfl; (constructor <;> omega)) | ((with_reducible apply o_alloc); exact rfl; intro _) | ((with_reducible apply gdo_store); first | refine wo_store1 (h := ?_) | refine wo_storeA (h := ?_)) | ((with_reducible apply o_len); infer_instance; exact rfl; exact rfl) | ((with_reducible apply o_idx); infer_instance; infer_instance; exact rfl; exact rfl; (first | exact rfl | omega); exact rfl; (first | assumption | omega | decide)) | ((with_reducible first | apply c_seq | apply c_block | apply c_region | apply c_nil | apply c_ret | apply c_exit | apply c_skip)) | ((with_reducible first | apply e_then | apply e_then_ret | apply e_then_exit | apply e_in | apply e_in_ret | apply e_in_same)))
          refine l_again (j + 1, (a_, cp_), N_) ⟨by dsimp only; omega, by dsimp only; rw [hob2]; exact hO_⟩ (by dsimp only; omega) ?_ ?_
          · (try dsimp only); rw [hob2]; exact fS_
          · exact hS_
      · have hor : Plt.ofRun (s1, s2) r = [] := by unfold Plt.ofRun; rw [if_neg hcc]
        rw [hor, List.append_nil] at hob
        as_aux_lemma =>
          repeat' (first | ((with_reducible apply c_cond_t); exact rfl; exact decide_eq_true (by omega)) | ((with_reducible apply c_cond_f); exact rfl; exact decide_eq_false (by omega)) | ((with_reducible apply o_pick_t); exact rfl; exact decide_eq_true (by omega); exact rfl; exact rfl) | ((with_reducible apply o_pick_f); exact rfl; exact decide_eq_false (by omega); exact rfl; exact rfl) | ((with_reducible apply g_run); exact rfl; exact decide_eq_true (by omega)) | ((with_reducible apply g_skip); exact rfl; exact decide_eq_false (by omega); exact rfl) | ((with_reducible first | apply o_move | apply o_assign | apply o_faddr0); exact rfl; exact rfl) | ((with_reducible apply o_faddr); exact rfl; exact rfl) | ((with_reducible apply gdo_load); first | refine wo_load (h := ?_) | refine wo_loadAll (h := ?_) | refine wo_loadC (h := ?_) | refine wo_ldV (h := ?_) | refine wo_ldF (h := ?_)) | ((with_reducible first | apply o_lss | apply o_eql); exact rfl; exact rfl; exact rfl) | ((with_reducible apply o_add); exact rfl; exact rfl; exact rfl; (constructor <;> omega)) | ((with_reducible apply o_alloc); exact rfl; intro _) | ((with_reducible apply gdo_store); first | refine wo_store1 (h := ?_) | refine wo_storeA (h := ?_)) | ((with_reducible apply o_len); infer_instance; exact rfl; exact rfl) | ((with_reducible apply o_idx); infer_instance; infer_instance; exact rfl; exact rfl; (first | exact rfl | omega); exact rfl; (first | assumption | omega | decide)) | ((with_reducible first | apply c_seq | apply c_block | apply c_region | apply c_nil | apply c_ret | apply c_exit | apply c_skip)) | ((with_reducible apply c_cond_f); exact rfl; exact fF_) | ((with_reducible first | apply e_then | apply e_then_ret | apply e_then_exit | apply e_in | apply e_in_ret | apply e_in_same)) | ((with_reducible apply g_split_d); exact rfl; intro hcond; rotate_left; intro hcond; rotate_left))
          all_goals try (exfalso; omega)
          all_goals
            refine l_again (j + 1, (ao, co), N) ⟨by dsimp only; omega, by dsimp only; rw [hob]; exact hO⟩ (by dsimp only; omega) ?_ ?_
            · (try dsimp only); rw [hob]; exact fS_
            · exact hS_
    obtain rfl : j = k := by omega
    rw [← hsn1] at hO ⊢
    as_aux_lemma =>
      repeat' (first | ((with_reducible apply c_cond_f); exact rfl; exact decide_eq_false (by omega)) | ((with_reducible first | apply o_move | apply o_assign | apply o_faddr0); exact rfl; exact rfl) | ((with_reducible first | apply o_lss | apply o_eql); exact rfl; exact rfl; exact rfl) | ((with_reducible apply o_add); exact rfl; exact rfl; exact rfl; (constructor <;> omega)) | ((with_reducible first | apply c_seq | apply c_block | apply c_region | apply c_nil | apply c_ret | apply c_exit | apply c_skip)) | ((with_reducible first | apply e_then | apply e_then_ret | apply e_then_exit | apply e_in | apply e_in_ret | apply e_in_same)))
      refine l_again (i + 1, (ao, co), N) ⟨by dsimp only; omega, hO⟩ (by dsimp only; omega) ?_ ?_
      · exact fS_
      · exact hS_
  obtain rfl : i = y.src.length := by omega
  rw [List.take_length] at hO ⊢
  repeat' (first | ((with_reducible apply c_cond_f); exact rfl; exact decide_eq_false (by omega)) | ((with_reducible first | apply o_move | apply o_assign | apply o_faddr0); exact rfl; exact rfl) | ((with_reducible first | apply o_lss | apply o_eql); exact rfl; exact rfl; exact rfl) | ((with_reducible first | apply c_seq | apply c_block | apply c_region | apply c_nil | apply c_ret | apply c_exit | apply c_skip)) | ((with_reducible first | apply e_then | apply e_then_ret | apply e_then_exit | apply e_in | apply e_in_ret | apply e_in_same)))
  apply r_body; apply res1 Try.results21; exact rV_; intro w' hw
  exact ⟨_, _, rfl, ⟨ao, co, rfl, hO⟩, hw.sub (by exact hS_), oN⟩
end Go.Proofs.Ytkhaemjoekfhiaa
namespace Go.Sx.Plt
open Go.Proofs.Ytkhaemjoekfhiaa (mslF_keys psF tkF psF_snoc tkF_snoc)
theorem machsBad_of : ∀ {l : List Mach} {met : List Int} {i : Nat}, (l.map Mach.id).Nodup → (∀ m ∈ l, m.id ∉ met ∧ rightM m) → machsBad met i l = none
  | [], _, _, _, _ => rfl
  | m :: r, met, i, hn, h => by
    rw [List.map_cons, List.nodup_cons] at hn
    rw [machsBad, if_pos (h m List.mem_cons_self)]
    refine machsBad_of hn.2 fun x hx => ⟨fun hm => ?_, (h x (List.mem_cons_of_mem _ hx)).2⟩
    rcases List.mem_append.1 hm with hm | hm
    · exact (h x (List.mem_cons_of_mem _ hx)).1 hm
    · simp at hm
      exact hn.1 (List.mem_map.2 ⟨x, hx, hm⟩)
theorem itemsBad_of : ∀ {l : List Item} {met : List Int} {i : Nat}, (l.map Item.id).Nodup → (∀ m ∈ l, m.id ∉ met ∧ m.ok) → itemsBad met i l = none
  | [], _, _, _, _ => rfl
  | m :: r, met, i, hn, h => by
    rw [List.map_cons, List.nodup_cons] at hn
    rw [itemsBad, if_pos ⟨(h m List.mem_cons_self).2, (h m List.mem_cons_self).1⟩]
    refine itemsBad_of hn.2 fun x hx => ⟨fun hm => ?_, (h x (List.mem_cons_of_mem _ hx)).2⟩
    rcases List.mem_append.1 hm with hm | hm
    · exact (h x (List.mem_cons_of_mem _ hx)).1 hm
    · simp at hm
      exact hn.1 (List.mem_map.2 ⟨x, hx, hm⟩)
theorem passesBad_of {msl : List (Int × Int)} : ∀ {l : List Pass} {ps tk : List (Int × Int)} {i : Nat}, (∀ (j : Nat) (y : Pass), l[j]? = some y → passOk msl (ps ++ psF msl (l.take j)) (tk ++ tkF (l.take j)) y) → passesBad msl ps tk i l = none
  | [], _, _, _, _ => rfl
  | a :: r, ps, tk, i, h => by
    have h0 : passOk msl ps tk a := by have := h 0 a rfl; simpa [psF, tkF] using this
    rw [passesBad, if_pos h0]
    refine passesBad_of fun j y hy => ?_
    have := h (j + 1) y (by simpa using hy)
    simpa [psF, tkF, List.append_assoc] using this
theorem validF_of {p : Plant} (hs : p.ms.length ≤ 20 ∧ p.items.length ≤ 2000 ∧ p.passes.length ≤ 60) (h1 : (p.ms.map Mach.id).Nodup) (h2 : ∀ m ∈ p.ms, rightM m) (h3 : (p.items.map Item.id).Nodup) (h4 : ∀ x ∈ p.items, x.ok)
    (h5 : ∀ (j : Nat) (y : Pass), p.passes[j]? = some y → passOk (mslF p.ms) (psF (mslF p.ms) (p.passes.take j)) (tkF (p.passes.take j)) y) : validF p = (0, 0) := by
  unfold validF
  rw [if_neg (by omega), machsBad_of h1 fun m hm => ⟨by simp, h2 m hm⟩]
  dsimp only
  rw [itemsBad_of h3 fun x hx => ⟨by simp, h4 x hx⟩]
  dsimp only
  rw [passesBad_of fun j y hy => by simpa using h5 j y hy]
theorem wrongS_of {b : Int} : ∀ {l : List Sh} {i : Nat} {b : Int}, (∀ (j : Nat) (s : Sh), l[j]? = some s → s.f < s.t ∧ s.t ≤ 1051898399 ∧ (j = 0 → b ≤ s.f) ∧ ∀ s', l[j + 1]? = some s' → s.t ≤ s'.f) → wrongS b i l = none
  | [], _, _, _ => rfl
  | s :: r, i, b, h => by
    obtain ⟨h1, h2, h3, h4⟩ := h 0 s rfl
    rw [wrongS, if_pos ⟨h3 rfl, h1, h2⟩]
    refine wrongS_of (b := s.t) fun j s' hs' => ?_
    obtain ⟨g1, g2, _, g4⟩ := h (j + 1) s' (by simpa using hs')
    refine ⟨g1, g2, fun hj => ?_, fun s'' hs'' => g4 s'' (by simpa using hs'')⟩
    subst hj
    exact h4 s' (by simpa using hs')
/-! ## what built makes -/
theorem bMach_id {x : Sk} {j : Nat} {m : Mach} (h : (bMs x)[j]? = some m) : j < (1 + nb x.ms 0 % 3).toNat ∧ m = bMach x.ms x.shs j := by
  obtain ⟨h1, h2⟩ := List.getElem?_eq_some_iff.1 h
  unfold bMs bMsN at h1 h2
  simp at h1 h2
  exact ⟨by simpa using h1, h2.symm⟩
theorem bMs_len (x : Sk) : 1 ≤ (bMs x).length ∧ (bMs x).length ≤ 3 := by
  have := nb_bd x.ms 0
  unfold bMs
  rw [bMsN_len]; omega
theorem bMs_nodup (x : Sk) : ((bMs x).map Mach.id).Nodup := by
  unfold bMs bMsN
  rw [List.map_map]
  refine List.Pairwise.map _ (R := fun a b => a ≠ b) (fun a b hab e => hab ?_) List.nodup_range
  simp only [Function.comp, bMach] at e
  omega
theorem bShs_ok (S : List UInt8) (i n : Nat) (hn : n ≤ 200) : wrongS 0 0 (bShs S i n) = none := by
  refine wrongS_of (b := 0) fun j s hs => ?_
  obtain ⟨h1, h2⟩ := List.getElem?_eq_some_iff.1 hs
  rw [bShs_len] at h1
  have e : s = bSh S i j := by rw [← h2]; simp [bShs]
  subst e
  have hb := bT_bd S i j
  have h3 := nb_bd S (i + j + 2)
  refine ⟨by unfold bSh; dsimp only; omega, by unfold bSh; dsimp only; omega, fun _ => hb.1, fun s' hs' => ?_⟩
  obtain ⟨g1, g2⟩ := List.getElem?_eq_some_iff.1 hs'
  have e : s' = bSh S i (j + 1) := by rw [← g2]; simp [bShs]
  subst e
  have h4 := nb_bd S (i + j + 3)
  unfold bSh
  dsimp only
  rw [show bT S i (j + 1) = bT S i j + 1 + nb S (i + j + 2) % 12 + nb S (i + j + 3) % 5 from rfl]
  omega
theorem bCaps_ok (M : List UInt8) (i n : Nat) (hn : 1 ≤ n ∧ n ≤ 64) : Srt.capsOk (bCaps M i n) := by
  refine ⟨by rw [bCaps_len]; exact hn, fun c hc => ?_⟩
  obtain ⟨k, _, rfl⟩ := List.mem_map.1 hc
  have := nb_bd M (i + k + 4)
  omega
/-- A machine that built makes, at any rate. -/
theorem bMach_right (M S : List UInt8) (i : Nat) (hi : i < 3) {r : Int} (hr : 1 ≤ r ∧ r ≤ 1000) : rightM { bMach M S i with rate := r } := by
  have h3 := nb_bd M (i + 3)
  have h1 := nb_bd M (i + 1)
  have h4 := nb_bd S (i + 1)
  have hc := bCaps_ok M i (1 + nb M (i + 3) % 4).toNat (by omega)
  refine ⟨by unfold idOk bMach; dsimp only; omega, hr, ?_, ?_⟩
  · show (Srt.runF (bCaps M i (1 + nb M (i + 3) % 4).toNat) (nb M (i + 1) % 4) []).2 = 0
    rw [Srt.runF_ok hc (by omega) ⟨by simp, by simp, by simp⟩]
  · show (allowedF [] (bShs S i (2 + nb S (i + 1) % 4).toNat)).2 = 0
    unfold allowedF
    rw [if_neg (by rw [bShs_len]; simp; omega)]
    simp only [wrongJ]
    rw [bShs_ok _ _ _ (by omega)]
theorem bIs_nodup (x : Sk) : ((bIs x).map Item.id).Nodup := by
  unfold bIs bIsN
  rw [List.map_map]
  refine List.Pairwise.map _ (R := fun a b => a ≠ b) (fun a b hab e => hab ?_) List.nodup_range
  simp only [Function.comp, bItem] at e
  omega
theorem bIs_ok (x : Sk) : ∀ y ∈ bIs x, y.ok := fun y hy => by
  obtain ⟨k, hk, rfl⟩ := List.mem_map.1 hy
  have hk := List.mem_range.1 hk
  have : k < 40 := by omega
  have := (x.its.getD k 0).toNat_lt
  unfold Item.ok idOk bItem
  dsimp only
  omega
end Go.Sx.Plt
namespace Go.Sx.Plt
open Go.Proofs.Ytkhaemjoekfhiaa (mslF_keys psF tkF psF_snoc tkF_snoc)
theorem srcs_of {ps : List (Int × Int)} : ∀ {l tk : List (Int × Int)}, l.Nodup → (∀ s ∈ l, s ∉ tk ∧ srcOk ps s) → srcsOk ps tk l
  | [], _, _, _ => trivial
  | a :: r, tk, hn, h => by
    rw [List.nodup_cons] at hn
    obtain ⟨h1, h2⟩ := h a List.mem_cons_self
    refine ⟨⟨h2, h1⟩, srcs_of hn.2 fun s hs => ⟨fun hm => ?_, (h s (List.mem_cons_of_mem _ hs)).2⟩⟩
    rcases List.mem_append.1 hm with hm | hm
    · exact (h s (List.mem_cons_of_mem _ hs)).1 hm
    · simp at hm; subst hm; exact hn.1 hs
theorem rows_of {n : Int} : ∀ {l : List Row} {met : List Int}, (l.map Row.stop).Nodup → (∀ e ∈ l, e.stop ∉ met ∧ 0 ≤ e.st ∧ e.st < n) → rowsOk n met l
  | [], _, _, _ => trivial
  | a :: r, met, hn, h => by
    rw [List.map_cons, List.nodup_cons] at hn
    refine ⟨h a List.mem_cons_self, rows_of hn.2 fun s hs => ⟨fun hm => ?_, (h s (List.mem_cons_of_mem _ hs)).2⟩⟩
    rcases List.mem_append.1 hm with hm | hm
    · exact (h s (List.mem_cons_of_mem _ hs)).1 hm
    · simp at hm; exact hn.1 (List.mem_map.2 ⟨s, hs, hm⟩)
theorem bPick_perm (n : Nat) : ∀ (l : List (Int × Int)) (k : Nat) (a b : List (Int × Int)), ((bPick n k a b l).1 ++ (bPick n k a b l).2).Perm (a ++ b ++ l)
  | [], k, a, b => by simp [bPick]
  | s :: r, k, a, b => by
    rw [bPick]
    split
    · refine (bPick_perm n r (k + 1) _ _).trans ?_
      rw [List.append_assoc a [s], List.append_assoc a b, List.append_assoc a]
      refine List.Perm.append_left a ?_
      rw [List.singleton_append, List.cons_append]
      exact List.perm_middle.symm
    · refine (bPick_perm n r (k + 1) _ _).trans ?_
      rw [List.append_assoc, List.append_assoc, List.append_assoc, List.singleton_append]
theorem bTab_mem {n c m : Nat} {e : Row} (h : e ∈ bTab n c m) : ∃ s, s < m ∧ s ≠ n % 16 ∧ e = ⟨s, (((n + s) % c : Nat) : Int)⟩ := by
  obtain ⟨s, hs, rfl⟩ := List.mem_map.1 h
  rw [List.mem_filter] at hs
  exact ⟨s, List.mem_range.1 hs.1, by simpa using hs.2, rfl⟩
theorem bTab_len (n c m : Nat) : (bTab n c m).length ≤ m := by
  unfold bTab
  rw [List.length_map]
  exact Nat.le_trans (List.length_filter_le _ _) (by simp)
theorem bUn_len (its : List Item) (n i m : Nat) : (bUn its n i m).length ≤ m := by
  unfold bUn
  rw [List.length_map]
  exact Nat.le_trans (List.length_filter_le _ _) (by simp)
theorem bTab_nodup (n c m : Nat) : ((bTab n c m).map Row.stop).Nodup := by
  unfold bTab
  rw [List.map_map]
  refine List.Pairwise.map _ (R := fun a b => a ≠ b) (fun a b hab e => hab ?_) (List.Pairwise.filter _ List.nodup_range)
  simp only [Function.comp] at e
  omega
/-- What is true of the first i passes, and of what they leave. -/
structure BI (ms : List Mach) (its : List Item) (P : List UInt8) (i : Nat) : Prop where
  nd : ((bAt ms its P i).1 ++ tkF (bAt ms its P i).2).Nodup
  src : ∀ s ∈ (bAt ms its P i).1 ++ tkF (bAt ms its P i).2, srcOk (psF (mslF ms) (bAt ms its P i).2) s ∧ (s.1 = 0 → s.2 ≤ min i 3)
  ids : ∀ (j : Nat) (y : Pass), (bAt ms its P i).2[j]? = some y → y.id = 20 - j
  pok : ∀ (j : Nat) (y : Pass), (bAt ms its P i).2[j]? = some y → passOk (mslF ms) (psF (mslF ms) ((bAt ms its P i).2.take j)) (tkF ((bAt ms its P i).2.take j)) y
theorem key_ids {msl : List (Int × Int)} {l : List Pass} {i : Nat} (hl : l.length = i) (hids : ∀ (j : Nat) (y : Pass), l[j]? = some y → y.id = 20 - j) {id n : Int} (h : asF id (psF msl l) = some n) : ∃ j : Nat, j < i ∧ id = 20 - j := by
  obtain ⟨j, hj⟩ := asF_some h
  rw [psF, List.getElem?_map] at hj
  cases hy : l[j]? with
  | none => rw [hy] at hj; cases hj
  | some y =>
    rw [hy] at hj
    simp only [Option.map_some, Option.some.injEq, Prod.mk.injEq] at hj
    exact ⟨j, by have := (List.getElem?_eq_some_iff.1 hy).1; omega, by rw [← hj.1]; exact hids j y hy⟩
theorem srcOk_mono {ps : List (Int × Int)} {q : Int × Int} {s : Int × Int} (h : srcOk ps s) : srcOk (ps ++ [q]) s := by
  unfold srcOk at h ⊢
  by_cases h0 : s.1 = 0
  · rw [if_pos h0] at h ⊢; exact h
  · rw [if_neg h0] at h ⊢
    cases ho : asF s.1 ps with
    | none => rw [ho] at h; exact h.elim
    | some n => rw [ho] at h; rw [asF_app, ho]; exact h
theorem BI.zero (ms : List Mach) (its : List Item) (P : List UInt8) : BI ms its P 0 := ⟨by simp [bAt, tkF], by simp [bAt, tkF], by simp [bAt], by simp [bAt]⟩
theorem BI.step {ms : List Mach} {its : List Item} {P : List UInt8} {i : Nat} (h : BI ms its P i) (hi : i < 6) (hm : 1 ≤ ms.length) (hn : (ms.map Mach.id).Nodup) (hc : ∀ m ∈ ms, 1 ≤ m.caps.length) (hl : its.length ≤ 2000) : BI ms its P (i + 1) := by
  obtain ⟨nd, src, ids, pok⟩ := h
  have hlen := bAt_len ms its P i
  have e1 : (bAt ms its P (i + 1)).1 = bNext ms (P.getD i 0).toNat i (bAt ms its P i).1 := rfl
  have e2 : (bAt ms its P (i + 1)).2 = (bAt ms its P i).2 ++ [bPass ms its (P.getD i 0).toNat i (bAt ms its P i).1] := rfl
  have hn8 := (P.getD i 0).toNat_lt
  generalize (P.getD i 0).toNat = n at e1 e2 hn8
  generalize (bAt ms its P i).1 = left at *
  generalize (bAt ms its P i).2 = pss at *
  obtain ⟨m, hmm, hmd⟩ : ∃ m, m ∈ ms ∧ bMd ms n = m := by
    have hlt : n % ms.length < ms.length := Nat.mod_lt _ (by omega)
    exact ⟨ms[n % ms.length], List.getElem_mem _, by unfold bMd; simp [List.getD_eq_getElem?_getD, hlt]⟩
  have hcm := hc m hmm
  have hmsl : asF m.id (mslF ms) = some (m.caps.length : Int) := by
    obtain ⟨j, hj⟩ := List.getElem?_of_mem hmm
    exact asF_at (j := j) (by rw [mslF_keys]; exact hn) (by rw [mslF, List.getElem?_map, hj]; rfl)
  -- what is left, with the new batch
  have hL : (bLeft i left ++ tkF pss).Nodup ∧ ∀ s ∈ bLeft i left ++ tkF pss, srcOk (psF (mslF ms) pss) s ∧ (s.1 = 0 → s.2 ≤ min (i + 1) 3) := by
    unfold bLeft
    by_cases h3 : i < 3
    · rw [if_pos h3]
      refine ⟨?_, fun s hs => ?_⟩
      · rw [List.append_assoc, List.singleton_append]
        refine List.perm_middle.nodup_iff.2 (List.nodup_cons.2 ⟨fun hh => ?_, nd⟩)
        have := (src _ hh).2 rfl
        dsimp only at this
        omega
      · rw [List.append_assoc, List.singleton_append] at hs
        rcases List.mem_cons.1 (List.perm_middle.mem_iff.1 hs) with rfl | hs
        · refine ⟨?_, fun _ => by dsimp only; omega⟩
          unfold srcOk
          rw [if_pos rfl]
          dsimp only; omega
        · exact ⟨(src s hs).1, fun h0 => by have := (src s hs).2 h0; omega⟩
    · rw [if_neg h3]
      exact ⟨nd, fun s hs => ⟨(src s hs).1, fun h0 => by have := (src s hs).2 h0; omega⟩⟩
  have hpp := bPick_perm n (bLeft i left) 0 [] []
  rw [List.nil_append, List.nil_append] at hpp
  have hy : bPass ms its n i left = ⟨20 - i, m.id, (n : Int) / 8 % 16, (bPick n 0 [] [] (bLeft i left)).1, bTab n m.caps.length 8, bUn its n i its.length⟩ := by unfold bPass; rw [hmd]
  have hx : bNext ms n i left = (bPick n 0 [] [] (bLeft i left)).2 ++ bSrcs (20 - i) m.caps.length := by unfold bNext; rw [hmd]
  generalize (bPick n 0 [] [] (bLeft i left)).1 = fr at *
  generalize (bPick n 0 [] [] (bLeft i left)).2 = re at *
  generalize bLeft i left = left2 at *
  rw [hx] at e1
  rw [hy] at e2
  clear hx hy
  have hnew : asF (20 - (i : Int)) (psF (mslF ms) pss) = none := by
    cases ho : asF (20 - (i : Int)) (psF (mslF ms) pss) with
    | none => rfl
    | some q =>
      obtain ⟨j, hj, e⟩ := key_ids hlen ids ho
      omega
  have hold : ∀ s ∈ left2 ++ tkF pss, s.1 ≠ 20 - (i : Int) := fun s hs e => by
    have h1 := (hL.2 s hs).1
    unfold srcOk at h1
    rw [if_neg (by omega), e, hnew] at h1
    exact h1
  have hps2 : psF (mslF ms) (pss ++ [⟨20 - i, m.id, (n : Int) / 8 % 16, fr, bTab n m.caps.length 8, bUn its n i its.length⟩]) = psF (mslF ms) pss ++ [(20 - (i : Int), (m.caps.length : Int))] := by simp [psF, hmsl]
  have htk2 : tkF (pss ++ [⟨20 - i, m.id, (n : Int) / 8 % 16, fr, bTab n m.caps.length 8, bUn its n i its.length⟩]) = tkF pss ++ fr := by simp [tkF]
  have hfr : ∀ s ∈ fr, s ∈ left2 := fun s hs => hpp.mem_iff.1 (List.mem_append.2 (.inl hs))
  have hre : ∀ s ∈ re, s ∈ left2 := fun s hs => hpp.mem_iff.1 (List.mem_append.2 (.inr hs))
  have hsrcs : ∀ s ∈ bSrcs (20 - (i : Int)) m.caps.length, s.1 = 20 - (i : Int) ∧ 0 ≤ s.2 ∧ s.2 < m.caps.length := fun s hs => by
    obtain ⟨k, hk, rfl⟩ := List.mem_map.1 hs
    have := List.mem_range.1 hk
    exact ⟨rfl, by dsimp only; omega, by dsimp only; omega⟩
  have hsn : (bSrcs (20 - (i : Int)) m.caps.length).Nodup := by
    unfold bSrcs
    refine List.Pairwise.map _ (R := fun a b => a ≠ b) (fun a b hab e => hab ?_) List.nodup_range
    have := (Prod.mk.inj e).2
    omega
  refine ⟨?_, fun s hs => ?_, fun j y hy => ?_, fun j y hy => ?_⟩
  · rw [e1, e2, htk2]
    have hperm : (re ++ bSrcs (20 - (i : Int)) m.caps.length ++ (tkF pss ++ fr)).Perm (bSrcs (20 - (i : Int)) m.caps.length ++ (left2 ++ tkF pss)) := by
      have p1 : (re ++ bSrcs (20 - (i : Int)) m.caps.length ++ (tkF pss ++ fr)).Perm (bSrcs (20 - (i : Int)) m.caps.length ++ (re ++ (tkF pss ++ fr))) := by
        rw [← List.append_assoc (bSrcs _ _)]
        exact List.Perm.append_right _ List.perm_append_comm
      refine p1.trans (List.Perm.append_left _ ?_)
      have p2 : (re ++ (tkF pss ++ fr)).Perm (re ++ (fr ++ tkF pss)) := List.Perm.append_left _ List.perm_append_comm
      refine p2.trans ?_
      rw [← List.append_assoc]
      exact List.Perm.append_right _ (List.perm_append_comm.trans hpp)
    refine hperm.nodup_iff.2 (List.nodup_append.2 ⟨hsn, hL.1, fun a ha b hb e => ?_⟩)
    subst e
    exact hold a hb (hsrcs a ha).1
  · rw [e1, e2, htk2] at hs
    rw [e2, hps2]
    rcases List.mem_append.1 hs with hs | hs
    · rcases List.mem_append.1 hs with hs | hs
      · have := hL.2 s (List.mem_append.2 (.inl (hre s hs)))
        exact ⟨srcOk_mono this.1, this.2⟩
      · obtain ⟨g1, g2, g3⟩ := hsrcs s hs
        refine ⟨?_, fun h0 => by omega⟩
        unfold srcOk
        rw [if_neg (by omega), g1, asF_app, hnew]
        simp only [asF, if_true, Option.none_or]
        exact ⟨g2, g3⟩
    · have hs' : s ∈ left2 ++ tkF pss := by
        rcases List.mem_append.1 hs with hs | hs
        · exact List.mem_append.2 (.inr hs)
        · exact List.mem_append.2 (.inl (hfr s hs))
      exact ⟨srcOk_mono (hL.2 s hs').1, (hL.2 s hs').2⟩
  · rw [e2] at hy
    by_cases hj : j < pss.length
    · rw [List.getElem?_append_left hj] at hy; exact ids j y hy
    · have : j = pss.length := by have h := (List.getElem?_eq_some_iff.1 hy).1; rw [List.length_append, List.length_singleton] at h; omega
      subst this
      rw [List.getElem?_append_right (Nat.le_refl _), Nat.sub_self] at hy
      cases hy
      dsimp only; omega
  · rw [e2] at hy ⊢
    by_cases hj : j < pss.length
    · rw [List.getElem?_append_left hj] at hy
      rw [List.take_append_of_le_length (by omega)]
      exact pok j y hy
    · have : j = pss.length := by have h := (List.getElem?_eq_some_iff.1 hy).1; rw [List.length_append, List.length_singleton] at h; omega
      subst this
      rw [List.getElem?_append_right (Nat.le_refl _), Nat.sub_self] at hy
      cases hy
      rw [List.take_append_of_le_length (Nat.le_refl _), List.take_length]
      have hfn : fr.Nodup := by
        have := (List.nodup_append.1 hL.1).1
        exact (List.nodup_append.1 (hpp.nodup_iff.2 this)).1
      refine ⟨⟨⟨hnew, by rw [hmsl]; rfl⟩, by unfold idOk; dsimp only; omega, by dsimp only; omega⟩, srcs_of hfn fun s hs => ⟨fun hh => ?_, (hL.2 s (List.mem_append.2 (.inl (hfr s hs)))).1⟩, ⟨?_, ?_⟩, ?_⟩
      · exact (List.nodup_append.1 hL.1).2.2 s (hfr s hs) s hh rfl
      · have := bTab_len n m.caps.length 8
        dsimp only; omega
      · have := bUn_len its n i its.length
        dsimp only; omega
      · dsimp only
        rw [hmsl, Option.getD_some]
        refine rows_of (bTab_nodup _ _ _) fun e he => ⟨by simp, ?_⟩
        obtain ⟨s, _, _, rfl⟩ := bTab_mem he
        have : (n + s) % m.caps.length < m.caps.length := Nat.mod_lt _ (by omega)
        dsimp only; omega
theorem BI.all {ms : List Mach} {its : List Item} {P : List UInt8} (hm : 1 ≤ ms.length) (hn : (ms.map Mach.id).Nodup) (hc : ∀ m ∈ ms, 1 ≤ m.caps.length) (hl : its.length ≤ 2000) : ∀ i, i ≤ 6 → BI ms its P i
  | 0, _ => BI.zero ms its P
  | i + 1, h => BI.step (BI.all hm hn hc hl i (by omega)) (by omega) hm hn hc hl
/-- Plants that built makes, with machines of other rates. -/
def rated (ms : List Mach) (rs : List Int) : List Mach := ms.zipWith (fun m r => { m with rate := r }) rs
theorem built_bi (x : Sk) : BI (bMs x) (bIs x) x.ps (min x.ps.length 6) :=
  BI.all (bMs_len x).1 (bMs_nodup x) (fun m hm => (bMs_caps hm).1) (by unfold bIs; rw [bIsN_len]; omega) _ (by omega)
theorem built_valid (x : Sk) : validF (built x) = (0, 0) := by
  have hb := built_bi x
  have hl := bMs_len x
  refine validF_of ⟨?_, ?_, ?_⟩ (bMs_nodup x) (fun m hm => ?_) (bIs_nodup x) (bIs_ok x) hb.pok
  · show (bMs x).length ≤ 20; omega
  · show (bIs x).length ≤ 2000; unfold bIs; rw [bIsN_len]; omega
  · show (bAt (bMs x) (bIs x) x.ps (min x.ps.length 6)).2.length ≤ 60; rw [bAt_len]; omega
  · obtain ⟨j, hj⟩ := List.getElem?_of_mem (show m ∈ bMs x from hm)
    obtain ⟨hj1, rfl⟩ := bMach_id hj
    have h0 := nb_bd x.ms 0
    have h2 := nb_bd x.ms (j + 2)
    exact bMach_right x.ms x.shs j (by omega) (r := 1 + nb x.ms (j + 2) % 5) (by omega)
end Go.Sx.Plt
namespace Go.Sx.Srt
open Go.Sx.Seq (addAt addAt_len)
def shift (d : Int) (m : M) : M := { m with left := m.left + d }
/-- How many sweeps are needed. -/
def needed (caps : List Int) (l : List Fd) : Int := (playF caps l.length l).swept.sum
/-! ## events -/
end Go.Sx.Srt
namespace Go.Sx.Srt
open Go.Sx.Seq (addAt addAt_len)
/-- What belongs to a stacker, in the order of feeding. -/
def goes (l : List Fd) (k : Nat) : List Int := (l.filter fun f => f.st = (k : Int)).map Fd.item
def refused (l : List Fd) : List Int := (l.filter fun f => f.st < 0).map Fd.item
theorem goes_snoc (l : List Fd) (f : Fd) (k : Nat) : goes (l ++ [f]) k = goes l k ++ if f.st = (k : Int) then [f.item] else [] := by
  unfold goes
  rw [List.filter_append, List.map_append]
  by_cases h : f.st = (k : Int) <;> simp [h]
theorem refused_snoc (l : List Fd) (f : Fd) : refused (l ++ [f]) = refused l ++ if f.st < 0 then [f.item] else [] := by
  unfold refused
  rw [List.filter_append, List.map_append]
  by_cases h : f.st < 0 <;> simp [h]
theorem list_snoc {α : Type} {P : List α → Prop} (h0 : P []) (h1 : ∀ l x, P l → P (l ++ [x])) : ∀ l, P l := by
  intro l
  have : ∀ n, n ≤ l.length → P (l.take n) := by
    intro n
    induction n with
    | zero => intro _; simpa using h0
    | succ n ih =>
      intro hn
      have hx := List.getElem?_eq_getElem (show n < l.length by omega)
      rw [List.take_add_one, hx]
      exact h1 _ _ (ih (by omega))
  have := this l.length (Nat.le_refl _)
  rwa [List.take_length] at this
theorem playF_goes {caps : List Int} {s : Int} : ∀ l : List Fd, (∀ f ∈ l, f.st < caps.length) → ∀ k, ((playF caps s l).stackers.getD k []).Sublist (goes l k) := by
  refine list_snoc ?_ ?_
  · intro _ k
    simp only [playF_nil, M.new]
    have : (List.replicate caps.length ([] : List Int)).getD k [] = [] := by
      by_cases h : k < caps.length <;> simp [h]
    rw [this]; exact List.nil_sublist _
  · intro l f ih hl k
    have ih := ih (fun x hx => hl x (List.mem_append_left _ hx)) k
    have hf := hl f (by simp)
    have hz := (playF_sz caps s l).st
    rw [playF_snoc, goes_snoc]
    have hput : 0 ≤ f.st → ((putAt (playF caps s l).stackers f.st.toNat f.item).getD k []).Sublist (goes l k ++ if f.st = (k : Int) then [f.item] else []) := fun h0 => by
      rw [putAt_getD, hz]
      refine ih.append ?_
      by_cases e : f.st = (k : Int)
      · rw [if_pos (by omega), if_pos e]; exact List.Sublist.refl _
      · rw [if_neg (by omega), if_neg e]; exact List.Sublist.refl _
    have hsame : ((playF caps s l).stackers.getD k []).Sublist (goes l k ++ if f.st = (k : Int) then [f.item] else []) := ih.trans (List.sublist_append_left _ _)
    rcases take_cases caps (playF caps s l) f with ⟨_, e⟩ | ⟨h0, _, e⟩ | ⟨h0, _, _, e⟩ | ⟨_, _, _, e⟩ <;> rw [e]
    · exact hsame
    · exact hput h0
    · exact hput h0
    · exact hsame
theorem playF_refused {caps : List Int} {s : Int} : ∀ l : List Fd, (playF caps s l).rej = refused l := by
  refine list_snoc ?_ ?_
  · rfl
  · intro l f ih
    rw [playF_snoc, refused_snoc]
    rcases take_cases caps (playF caps s l) f with ⟨h, e⟩ | ⟨h, _, e⟩ | ⟨h, _, _, e⟩ | ⟨h, _, _, e⟩ <;> rw [e]
    · simp only [note, ih, if_pos h]
    · simp only [note, stack, ih, if_neg (show ¬ f.st < 0 by omega), List.append_nil]
    · simp only [note, stack, ih, if_neg (show ¬ f.st < 0 by omega), List.append_nil]
    · simp only [note, ih, if_neg (show ¬ f.st < 0 by omega), List.append_nil]
end Go.Sx.Srt
namespace Go.Sx.Plt
open Go.Proofs.Ytkhaemjoekfhiaa (mslF_keys psF tkF psF_snoc tkF_snoc)
/-! ## slices and minutes -/
theorem span_min {rel : Int} : ∀ {l : List Sh} {left : Int}, 0 ≤ left → spanF (slicesF rel left l) = min left (haveF rel l)
  | [], left, h => by simp [slicesF, spanF, haveF]; omega
  | s :: r, left, h => by
    have hh : 0 ≤ haveF rel r := by
      have : ∀ l : List Sh, 0 ≤ haveF rel l := by
        intro l
        induction l with
        | nil => simp [haveF]
        | cons a l ih => rw [haveF]; omega
      exact this r
    rw [slicesF, haveF]
    by_cases hc : left = 0 ∨ s.t ≤ max s.f rel
    · rw [if_pos hc, span_min h]
      rcases hc with h0 | h0 <;> omega
    · rw [if_neg hc, spanF, span_min (by omega)]
      dsimp only
      omega
/-- Slices, one behind the other. -/
def Chain : Int → List (Int × Int) → Prop
  | _, [] => True
  | e, s :: r => (e ≤ s.1 ∧ s.1 < s.2) ∧ Chain s.2 r
theorem Chain.mono : ∀ {l : List (Int × Int)} {e e' : Int}, e' ≤ e → Chain e l → Chain e' l
  | [], _, _, _, _ => trivial
  | s :: r, e, e', h, hc => ⟨by have := hc.1; omega, hc.2⟩
theorem need_lt {k n : Int} {r : Int} (hr : 1 ≤ r) : k < (n + r - 1) / r ↔ k * r < n := by
  have h1 : k + 1 ≤ (n + r - 1) / r ↔ (k + 1) * r ≤ n + r - 1 := Int.le_ediv_iff_mul_le (by omega)
  have h2 : (k + 1) * r = k * r + r := by rw [Int.add_mul, Int.one_mul]
  rw [h2] at h1
  omega
/-! ## feeds -/
theorem tableF_mem {k v : Int} : ∀ l : List Row, asF k (tableF l) = some v → ∃ e ∈ l, e.stop = k ∧ e.st = v := by
  refine fun l => snoc_ind (p := fun l => asF k (tableF l) = some v → ∃ e ∈ l, e.stop = k ∧ e.st = v) (fun h => by simp [tableF, asF] at h) (fun l e ih h => ?_) l
  rw [tableF_snoc, asF_put] at h
  by_cases hk : e.stop = k
  · rw [if_pos hk] at h
    exact ⟨e, by simp, hk, by simpa using h⟩
  · rw [if_neg hk] at h
    obtain ⟨x, hx, h1⟩ := ih h
    exact ⟨x, List.mem_append.2 (.inl hx), h1⟩
theorem rows_spec {n : Int} : ∀ {l : List Row} {met : List Int}, rowsOk n met l → ∀ e ∈ l, 0 ≤ e.st ∧ e.st < n
  | [], _, _, e, h => by simp at h
  | a :: r, met, h, e, he => by
    rcases List.mem_cons.1 he with rfl | he
    · exact h.1.2
    · exact rows_spec h.2 e he
theorem feed_item (stops : List (Int × Int)) (y : Pass) (x : Int) : (feedOf stops y x).item = x := by unfold feedOf; split <;> rfl
theorem feed_bd {stops : List (Int × Int)} {y : Pass} {n : Int} (hr : rowsOk n [] y.table) (hn : 0 ≤ n) (x : Int) : -1 ≤ (feedOf stops y x).st ∧ (feedOf stops y x).st < n := by
  unfold feedOf
  cases ho : asF ((asF x stops).getD 0) (tableF y.table) with
  | none => dsimp only; omega
  | some k =>
    obtain ⟨e, he, _, rfl⟩ := tableF_mem _ ho
    have := rows_spec hr e he
    dsimp only
    split <;> omega
theorem Valid.feeds {p : Plant} (hv : Valid p) {i : Nat} {h : Hall} (hi : Inv p i h) {y : Pass} (hy : p.passes[i]? = some y) {m : Mach} (hm : asF y.mach (mslF p.ms) = some (m.caps.length : Int)) {items : List Int} (hit : items = y.src.flatMap h.row) : Srt.FdsOk m.caps.length (items.map (feedOf (stopsF p.items) y)) ∧ (∀ x ∈ items, x ∈ p.items.map Item.id) ∧ items.Nodup := by
  have hs := hv.src hy
  have hcount := fun x => hi.count hs.1 (fun s hs' => (hs.2 s hs').1) x
  rw [← hit] at hcount
  have hmem : ∀ x ∈ items, x ∈ p.items.map Item.id := fun x hx => by
    have h1 := List.count_pos_iff.2 hx
    have := hcount x
    exact List.count_pos_iff.1 (by omega)
  have hnd : items.Nodup := List.nodup_iff_count.2 fun x => by
    have := hcount x
    have := List.nodup_iff_count.1 hv.ind x
    omega
  refine ⟨⟨fun f hf => ?_, ?_, ?_⟩, hmem, hnd⟩
  · obtain ⟨x, hx, rfl⟩ := List.mem_map.1 hf
    obtain ⟨z, hz, e⟩ := List.mem_map.1 (hmem x hx)
    have hok := (hv.iok z hz).1
    unfold idOk at hok
    have hrow := (hv.pok i y hy).2.2.2
    rw [hm, Option.getD_some] at hrow
    have := feed_bd (stops := stopsF p.items) hrow (by omega) x
    unfold Srt.Fd.ok
    rw [feed_item]
    omega
  · rw [feed_items]; exact hnd
  · rw [List.length_map]
    have := hi.len hv hs.1 (fun s hs' => (hs.2 s hs').1)
    rw [← hit] at this
    exact this
/-! ## one run -/
/-- A run that was run. -/
structure Ran (p : Plant) (h : Hall) (m : Mach) (y : Pass) (r : Run) (ready : Int) : Prop where
  take : takeSrc h (max y.rel ((asF m.id h.free).getD 0)) [] y.src = some (ready, r.items)
  pass : r.pass = y.id
  res : Srt.runF m.caps m.sweeps (r.items.map (feedOf (stopsF p.items) y)) = (r.res, 0)
  hall : (runF h m (stopsF p.items) y).2 = ⟨putRows y.id 0 r.res.stackers h.rows, putF y.id r.fin h.ends, putF m.id r.fin h.free⟩
  slices : r.slices = if r.items = [] then [] else slicesF ready (needOf r.items.length m.rate) m.shifts
  enough : needOf r.items.length m.rate ≤ haveF ready m.shifts
  start : r.start = if r.items = [] then ready else (r.slices.headD (0, 0)).1
  fin : r.fin = if r.items = [] then ready else (r.slices.getLastD (0, 0)).2
/-- A run that was not. -/
structure Miss (p : Plant) (h : Hall) (m : Mach) (y : Pass) (r : Run) : Prop where
  eq : r = missed y
  hall : (runF h m (stopsF p.items) y).2 = h
  why : ∀ ready items, takeSrc h (max y.rel ((asF m.id h.free).getD 0)) [] y.src = some (ready, items) → haveF ready m.shifts * m.rate < items.length
theorem need_nonneg {n : Nat} {r : Int} (hr : 1 ≤ r) : 0 ≤ needOf n r := Int.ediv_nonneg (by omega) (by omega)
theorem haveF_nonneg (t : Int) : ∀ l : List Sh, 0 ≤ haveF t l
  | [] => by simp [haveF]
  | a :: r => by have := haveF_nonneg t r; rw [haveF]; omega
theorem run_cases {p : Plant} (hv : Valid p) {i : Nat} {h : Hall} (hi : Inv p i h) {y : Pass} (hy : p.passes[i]? = some y) {m : Mach} (hm : asF y.mach (mslF p.ms) = some (m.caps.length : Int)) (hr : rightM m) :
    Miss p h m y (runF h m (stopsF p.items) y).1 ∨ ∃ ready, Ran p h m y (runF h m (stopsF p.items) y).1 ready := by
  have hrate := hr.2.1.1
  cases ht : takeSrc h (max y.rel ((asF m.id h.free).getD 0)) [] y.src with
  | none =>
    have e : runF h m (stopsF p.items) y = (missed y, h) := by unfold runF; rw [ht]
    exact .inl ⟨by rw [e], by rw [e], fun ready items hh => by rw [ht] at hh; cases hh⟩
  | some q =>
    obtain ⟨ready, items⟩ := q
    have hit := (takeSrc_spec ht).1
    rw [List.nil_append] at hit
    obtain ⟨hfd, _, _⟩ := hv.feeds hi hy hm hit
    have hcaps : Srt.capsOk m.caps ∧ 0 ≤ m.sweeps ∧ m.sweeps ≤ 1000 := by
      have h1 := hr.2.2.1
      unfold Srt.runF at h1
      split at h1
      · cases h1
      · rename_i hc
        split at h1
        · cases h1
        · rename_i hs
          exact ⟨Classical.not_not.1 hc, by omega, by omega⟩
    have hres := Srt.runF_ok hcaps.1 hcaps.2 hfd
    by_cases hne : items = []
    · subst hne
      have e := Go.Proofs.Ytkhaemjoekfhiaa.runF_idle (stops := stopsF p.items) ht
      rw [show Srt.runF m.caps m.sweeps [] = _ from hres] at e
      unfold Go.Proofs.Ytkhaemjoekfhiaa.tailF at e
      rw [if_neg (by simp)] at e
      refine .inr ⟨ready, ?_⟩
      rw [e]
      refine ⟨ht, rfl, hres, by rw [e], rfl, ?_, rfl, rfl⟩
      have : needOf ([] : List Int).length m.rate = 0 := by
        unfold needOf
        exact Int.ediv_eq_zero_of_lt (by simp; omega) (by simp; omega)
      dsimp only
      rw [this]
      exact haveF_nonneg _ _
    · have hsp := span_min (rel := ready) (l := m.shifts) (need_nonneg (n := items.length) hrate)
      by_cases hl : slicesF ready (needOf items.length m.rate) m.shifts = [] ∨ spanF (slicesF ready (needOf items.length m.rate) m.shifts) < needOf items.length m.rate
      · have e := Go.Proofs.Ytkhaemjoekfhiaa.runF_late (stops := stopsF p.items) ht hne hl
        refine .inl ⟨by rw [e], by rw [e], fun r2 i2 hh => ?_⟩
        rw [ht] at hh
        cases hh
        have hn1 : 1 ≤ needOf items.length m.rate := by
          have := List.length_pos_iff.2 hne
          unfold needOf
          exact Int.le_ediv_of_mul_le (by omega) (by omega)
        have h2 : haveF ready m.shifts < needOf items.length m.rate := by
          rcases hl with h0 | h0
          · rw [h0, spanF] at hsp; omega
          · omega
        exact (need_lt hrate).1 h2
      · have e := Go.Proofs.Ytkhaemjoekfhiaa.runF_busy (stops := stopsF p.items) ht hne hl
        rw [hres] at e
        unfold Go.Proofs.Ytkhaemjoekfhiaa.tailF at e
        rw [if_neg (by simp)] at e
        refine .inr ⟨ready, ?_⟩
        rw [e]
        refine ⟨ht, rfl, hres, by rw [e], by dsimp only; rw [if_neg hne], by dsimp only; omega, by dsimp only; rw [if_neg hne], by dsimp only; rw [if_neg hne]⟩
end Go.Sx.Plt
namespace Go.Sx.Plt
open Go.Proofs.Ytkhaemjoekfhiaa (mslF_keys psF tkF psF_snoc tkF_snoc)
/-- The run of a pass of a valid plant. -/
theorem Valid.run {p : Plant} (hv : Valid p) {i : Nat} {y : Pass} (hy : p.passes[i]? = some y) {r : Run} (hr : (playF p)[i]? = some r) : ∃ (k : Nat) (m : Mach), p.ms[k]? = some m ∧ m.id = y.mach ∧ rightM m ∧ r = (runF (hallAt p i) m (stopsF p.items) y).1 ∧ hallAt p (i + 1) = (runF (hallAt p i) m (stopsF p.items) y).2 ∧
    asF y.mach (mslF p.ms) = some (m.caps.length : Int) ∧ (Miss p (hallAt p i) m y r ∨ ∃ ready, Ran p (hallAt p i) m y r ready) := by
  obtain ⟨k, m, h1, h2, h3, h4, h5⟩ := hv.mach hy
  have hg := playF_get hy
  rw [hr, h3] at hg
  have e : r = (runF (hallAt p i) m (stopsF p.items) y).1 := Option.some.inj hg
  refine ⟨k, m, h1, h2, h4, e, by rw [hallAt_succ hy, h3], h5, ?_⟩
  rw [e]
  exact run_cases hv (Inv.all hv i) hy h5 h4
theorem pass_lt {p : Plant} {i : Nat} {y : Pass} (h : p.passes[i]? = some y) : i < p.passes.length := (List.getElem?_eq_some_iff.1 h).1
theorem Valid.get {p : Plant} {i : Nat} {y : Pass} (h : p.passes[i]? = some y) : ∃ r, (playF p)[i]? = some r := ⟨_, List.getElem?_eq_getElem (by rw [playF_len]; exact pass_lt h)⟩
theorem hall_stay {p : Plant} {i : Nat} (h : p.passes[i]? = none) : hallAt p (i + 1) = hallAt p i := by
  unfold hallAt
  rw [List.take_add_one, h]; simp
/-! ## rows -/
theorem batch_row (b : Int) : ∀ l : List Item, (asF ((0 : Int), b) (batchRows [] l)).getD [] = ofBatch l (0, b) := by
  refine fun l => snoc_ind (p := fun l => (asF ((0 : Int), b) (batchRows [] l)).getD [] = ofBatch l (0, b)) (by simp [batchRows, asF, ofBatch]) (fun l x ih => ?_) l
  rw [batch_snoc, asF_put]
  unfold ofBatch at ih ⊢
  rw [if_pos rfl] at ih ⊢
  rw [List.filter_append, List.map_append]
  by_cases h : x.batch = b
  · rw [if_pos (by rw [h]), Option.getD_some, h, ih]; simp [h]
  · rw [if_neg (fun e => h (Prod.mk.inj e).2), ih]; simp [h]
theorem batch_row0 {s : Int × Int} (h : s.1 ≠ 0) (l : List Item) : asF s (batchRows [] l) = none := by
  refine snoc_ind (p := fun l => asF s (batchRows [] l) = none) (by simp [batchRows, asF]) (fun l x ih => ?_) l
  rw [batch_snoc, asF_put, if_neg (fun e => h (by rw [← e]))]
  exact ih
theorem ofRun_missed (y : Pass) {s : Int × Int} (h : 0 ≤ s.2) : ofRun s (missed y) = [] := by
  unfold ofRun
  rw [if_neg]
  rintro ⟨_, h2⟩
  simp [missed, Srt.M.new] at h2
  omega
theorem Valid.rows {p : Plant} (hv : Valid p) {s : Int × Int} (hs : 0 ≤ s.2) : ∀ i, (hallAt p i).row s = ofBatch p.items s ++ ((playF p).take i).flatMap (ofRun s)
  | 0 => by
    rw [hallAt_zero, List.take_zero, List.flatMap_nil, List.append_nil]
    unfold Hall.row hall0
    dsimp only
    by_cases h0 : s.1 = 0
    · obtain ⟨a, b⟩ := s
      dsimp only at h0
      subst h0
      exact batch_row b p.items
    · rw [batch_row0 h0]
      unfold ofBatch
      rw [if_neg h0]; rfl
  | i + 1 => by
    have ih := Valid.rows hv hs i
    cases hy : p.passes[i]? with
    | none =>
      have hl : p.passes.length ≤ i := by
        rcases Nat.lt_or_ge i p.passes.length with h | h
        · rw [List.getElem?_eq_getElem h] at hy; cases hy
        · exact h
      rw [hall_stay hy, ih, List.take_of_length_le (by rw [playF_len]; omega), List.take_of_length_le (by rw [playF_len]; omega)]
    | some y =>
      obtain ⟨r, hr⟩ := Valid.get hy
      obtain ⟨k, m, _, _, _, hre, hh, _, hc⟩ := hv.run hy hr
      rw [flatMap_snoc' _ hr, ← List.append_assoc, ← ih]
      rcases hc with hc | ⟨ready, hc⟩
      · rw [hh, hc.hall, hc.eq, ofRun_missed y hs, List.append_nil]
      · rw [hh, hc.hall]
        unfold Hall.row
        dsimp only
        obtain ⟨a, b⟩ := s
        dsimp only at hs
        rw [putRows_as]
        have hidn : y.id ≠ 0 := by
          have := (hv.pok i y hy).1.2.1
          unfold idOk at this
          omega
        unfold ofRun
        rw [hc.pass]
        dsimp only
        by_cases hid : a = y.id
        · subst hid
          have h0 : asF (y.id, b) (hallAt p i).rows = none := (Inv.all hv i).row_early hidn (hv.new hy)
          rw [h0]
          by_cases hb : b < (r.res.stackers.length : Int)
          · rw [if_pos ⟨rfl, by omega, by omega⟩, if_pos ⟨rfl, hb⟩]
            simp [List.getD_eq_getElem?_getD]
          · rw [if_neg (by rintro ⟨_, _, h⟩; omega), if_neg (fun h => hb h.2)]; rfl
        · rw [if_neg (fun h => hid h.1), if_neg (fun h => hid h.1.symm), List.append_nil]
theorem src_nonneg {ps : List (Int × Int)} {s : Int × Int} (h : srcOk ps s) : 0 ≤ s.2 := by
  unfold srcOk at h
  split at h
  · omega
  · split at h
    · exact h.elim
    · exact h.1
theorem Valid.src_nn {p : Plant} (hv : Valid p) {i : Nat} {y : Pass} (hy : p.passes[i]? = some y) : ∀ s ∈ y.src, 0 ≤ s.2 := fun s hs => src_nonneg ((srcs_spec (hv.pok i y hy).2.1).2 s hs).2
theorem Valid.taken' {p : Plant} (hv : Valid p) {i : Nat} {y : Pass} (hy : p.passes[i]? = some y) : y.src.flatMap (hallAt p i).row = takenF p.items ((playF p).take i) y.src := by
  unfold takenF
  have : ∀ l : List (Int × Int), (∀ s ∈ l, 0 ≤ s.2) → l.flatMap (hallAt p i).row = l.flatMap fun s => ofBatch p.items s ++ ((playF p).take i).flatMap (ofRun s) := by
    intro l
    induction l with
    | nil => intro _; rfl
    | cons a l ih =>
      intro h
      rw [List.flatMap_cons, List.flatMap_cons, ih fun s hs => h s (List.mem_cons_of_mem _ hs), hv.rows (h a List.mem_cons_self) i]
  exact this _ (hv.src_nn hy)
theorem Valid.taken_len {p : Plant} (hv : Valid p) {i : Nat} {y : Pass} (hy : p.passes[i]? = some y) : (takenF p.items ((playF p).take i) y.src).length ≤ 2000 := by
  rw [← hv.taken' hy]
  have hs := hv.src hy
  exact (Inv.all hv i).len hv hs.1 fun s hs' => (hs.2 s hs').1
theorem Ran.items {p : Plant} {i : Nat} {m : Mach} {y : Pass} {r : Run} {ready : Int} (hc : Ran p (hallAt p i) m y r ready) (hv : Valid p) (hy : p.passes[i]? = some y) : r.items = takenF p.items ((playF p).take i) y.src := by
  have := (takeSrc_spec hc.take).1
  rw [List.nil_append] at this
  rw [this, hv.taken' hy]
/-! ## where items are put -/
theorem count_flat {x : Int} : ∀ {l : List (List Int)}, x ∈ l.flatten → ∃ k, k < l.length ∧ x ∈ l.getD k []
  | [], h => by simp at h
  | a :: r, h => by
    rw [List.flatten_cons] at h
    rcases List.mem_append.1 h with h | h
    · exact ⟨0, by simp, by simpa using h⟩
    · obtain ⟨k, hk, hx⟩ := count_flat h
      exact ⟨k + 1, by simp; omega, by simpa using hx⟩
theorem count_part {x : Int} : ∀ {l : List (List Int)} {k : Nat}, (l.getD k []).count x ≤ l.flatten.count x
  | [], k => by simp
  | a :: r, 0 => by rw [List.flatten_cons, List.count_append]; simp
  | a :: r, k + 1 => by
    have := count_part (x := x) (l := r) (k := k)
    rw [List.flatten_cons, List.count_append]
    simp only [List.getD_cons_succ]
    omega
structure Placed (r : Run) (x st : Int) : Prop where
  all : allN r x r.res.stackers.length = 1
  rej : st < 0 → holdsF r x 4 r.pass 0
  put : 0 ≤ st → holdsF r x 2 r.pass st ∨ holdsF r x 3 r.pass 0
  place : ∀ kd ps nu, placeF r x = (kd, ps, nu) → (kd = 2 ∨ kd = 3 ∨ kd = 4) ∧ holdsF r x kd ps nu
theorem stkF_some {x : Int} : ∀ {l : List (List Int)} {i k : Nat}, stkF x i l = some k → i ≤ k ∧ x ∈ l.getD (k - i) []
  | [], _, _, h => by simp [stkF] at h
  | a :: r, i, k, h => by
    rw [stkF] at h
    by_cases hx : x ∈ a
    · rw [if_pos hx] at h; cases h; exact ⟨Nat.le_refl _, by simpa using hx⟩
    · rw [if_neg hx] at h
      obtain ⟨h1, h2⟩ := stkF_some h
      refine ⟨by omega, ?_⟩
      rw [show k - i = (k - (i + 1)) + 1 from by omega]
      simpa using h2
theorem stkF_none {x : Int} : ∀ {l : List (List Int)} {i : Nat}, stkF x i l = none → x ∉ l.flatten
  | [], _, _ => by simp
  | a :: r, i, h => by
    rw [stkF] at h
    by_cases hx : x ∈ a
    · rw [if_pos hx] at h; cases h
    · rw [if_neg hx] at h
      rw [List.flatten_cons, List.mem_append, not_or]
      exact ⟨hx, stkF_none h⟩
theorem Ran.placed {p : Plant} {h : Hall} {m : Mach} {y : Pass} {r : Run} {ready : Int} (hc : Ran p h m y r ready) {x : Int} (hx : x ∈ r.items) : Placed r x (feedOf (stopsF p.items) y x).st := by
  obtain ⟨hres, hst, hnd⟩ := srun_feeds hc.res
  rw [feed_items] at hnd
  have hcnt := stackers_count hc.res x
  have h1 : r.items.count x = 1 := by
    have := List.nodup_iff_count.1 hnd x
    have := List.count_pos_iff.2 hx
    omega
  rw [h1] at hcnt
  have hall : allN r x r.res.stackers.length = 1 := by unfold allN; rw [List.take_length]; omega
  -- the stackers have what goes there
  have hgo : ∀ k, x ∈ r.res.stackers.getD k [] → (feedOf (stopsF p.items) y x).st = (k : Int) := fun k hk => by
    rw [hres] at hk
    have := (Srt.playF_goes (s := m.sweeps) _ hst k).subset hk
    unfold Srt.goes at this
    obtain ⟨f, hf, e⟩ := List.mem_map.1 this
    rw [List.mem_filter] at hf
    obtain ⟨z, _, rfl⟩ := List.mem_map.1 hf.1
    rw [feed_item] at e
    subst e
    simpa using hf.2
  have hrj : x ∈ r.res.rej ↔ (feedOf (stopsF p.items) y x).st < 0 := by
    rw [hres, Srt.playF_refused]
    unfold Srt.refused
    constructor
    · intro h
      obtain ⟨f, hf, e⟩ := List.mem_map.1 h
      rw [List.mem_filter] at hf
      obtain ⟨z, _, rfl⟩ := List.mem_map.1 hf.1
      rw [feed_item] at e
      subst e
      simpa using hf.2
    · intro h
      exact List.mem_map.2 ⟨feedOf (stopsF p.items) y x, List.mem_filter.2 ⟨List.mem_map.2 ⟨x, hx, rfl⟩, by simpa using h⟩, feed_item _ _ _⟩
  generalize (feedOf (stopsF p.items) y x).st = st at hgo hrj
  have hS : ∀ k, x ∈ r.res.stackers.getD k [] → holdsF r x 2 r.pass (k : Int) := fun k hk => by
    have h2 := List.count_pos_iff.2 hk
    have h3 := count_part (x := x) (l := r.res.stackers) (k := k)
    refine ⟨⟨hall, ?_⟩, rfl, .inr rfl⟩
    unfold hereF inSt
    rw [if_pos rfl, if_pos (by omega), show ((k : Int)).toNat = k from rfl]
    omega
  have hO : x ∈ r.res.over → holdsF r x 3 r.pass 0 := fun hk => by
    have h2 := List.count_pos_iff.2 hk
    refine ⟨⟨hall, ?_⟩, rfl, .inl rfl⟩
    unfold hereF
    rw [if_neg (by decide), if_pos rfl]
    omega
  have hR : x ∈ r.res.rej → holdsF r x 4 r.pass 0 := fun hk => by
    have h2 := List.count_pos_iff.2 hk
    refine ⟨⟨hall, ?_⟩, rfl, .inl rfl⟩
    unfold hereF
    rw [if_neg (by decide), if_neg (by decide), if_pos rfl]
    omega
  have hex : x ∈ r.res.stackers.flatten ∨ x ∈ r.res.over ∨ x ∈ r.res.rej := by
    by_cases g1 : x ∈ r.res.stackers.flatten
    · exact .inl g1
    · by_cases g2 : x ∈ r.res.over
      · exact .inr (.inl g2)
      · have e1 := List.count_eq_zero.2 g1
        have e2 := List.count_eq_zero.2 g2
        exact .inr (.inr (List.count_pos_iff.1 (by omega)))
  refine ⟨hall, fun h => hR (hrj.2 h), fun h => ?_, fun kd ps nu he => ?_⟩
  · rcases hex with g | g | g
    · obtain ⟨k, _, hk⟩ := count_flat g
      rw [hgo k hk]
      exact .inl (hS k hk)
    · exact .inr (hO g)
    · have := hrj.1 g; omega
  · unfold placeF at he
    cases hsk : stkF x 0 r.res.stackers with
    | some k =>
      rw [hsk] at he
      cases he
      have := (stkF_some hsk).2
      rw [Nat.sub_zero] at this
      exact ⟨.inl rfl, hS k this⟩
    | none =>
      rw [hsk] at he
      dsimp only at he
      have hn := stkF_none hsk
      by_cases g2 : x ∈ r.res.over
      · rw [if_pos g2] at he
        cases he
        exact ⟨.inr (.inl rfl), hO g2⟩
      · rw [if_neg g2] at he
        cases he
        refine ⟨.inr (.inr rfl), hR ?_⟩
        rcases hex with g | g | g
        · exact (hn g).elim
        · exact (g2 g).elim
        · exact g
end Go.Sx.Plt
namespace Go.Proofs.Ytkhaemjoekfhiaa
open Go Go.Sx Go.RowKit
attribute [local irreducible] WL WC WQ WR WB WF QB St Exit.then Exit.inBlock Exit.noGoto bodyPost roundPost beginK YR RG BM Calls B AgainD MeetD
/-! ## awake -/
theorem len20 : (Plt.playF (Plt.exPl 20)).length = 2 := by rw [Plt.playF_len]; rfl
theorem len14 : (Plt.playF (Plt.exPl 14)).length = 2 := by rw [Plt.playF_len]; rfl
set_option maxHeartbeats 16000000 in
set_option maxRecDepth 100000 in
theorem awake_calls (w : World) : Calls Try.prog 16 #[] w fun e w' => e = .returned (.bool true) ∧ Below w.heap.size w w' := by
  have hl20 := len20
  have hl14 := len14
  obtain ⟨r0, hr0, e01, e02, e03, e04, e05⟩ := Plt.ex20_r0
  obtain ⟨r1, hr1, e11, e12, e13, e14⟩ := Plt.ex20_r1
  obtain ⟨s0, hs0, f01⟩ := Plt.ex14_r0
  obtain ⟨s1, hs1, f11, f12, f13⟩ := Plt.ex14_r1
  refine f_enter0 Try.func16 rfl Try.ntmps16 rfl (Rep.start w) ?_
  repeat' (first | ((first | ((with_reducible apply o_call_new (f := 35)); exact rfl) | ((with_reducible apply q_call_new (f := 35)); exact rfl; exact rfl; exact sJ_)); exact eV_; exact (fun w _ => example_calls w); rintro v NE ⟨b1, b2, b3, b4, b5, b6, b7, b8, b9, rfl, rfl⟩ <;> (try simp only [List.cons_append, List.nil_append])) | ((first | ((with_reducible apply o_call_new (f := 11)); exact rfl) | ((with_reducible apply q_call_new (f := 11)); exact rfl; exact rfl; exact sJ_)); exact eV_; exact (fun w hw => play_calls31 (Plt.calm_of Plt.ex20_valid) w (ex_plV _ _ _ _ (by exact rL_) hw)); rintro v NR ⟨ar, cr, rds, rfl, ⟨hsh, hrl⟩, oR⟩ <;> (try simp only [List.cons_append, List.nil_append])) | ((with_reducible first | apply o_move | apply o_assign | apply o_faddr0 | apply o_not_d); exact rfl; exact rfl) | ((with_reducible apply gdo_load); first | refine wo_load (h := ?_) | refine wo_loadAll (h := ?_) | refine wo_loadC (h := ?_) | refine wo_ldV (h := ?_) | refine wo_ldF (h := ?_)) | ((with_reducible first | apply o_eql | apply o_neq | apply o_extract); exact rfl; exact rfl; exact rfl) | ((with_reducible apply o_pick_f); exact rfl; exact fF_; exact rfl; exact rfl) | ((with_reducible apply o_alloc); exact rfl; intro _) | ((with_reducible apply gdo_store); first | refine wo_store1 (h := ?_) | refine wo_storeA (h := ?_)) | ((with_reducible apply o_len); infer_instance; exact rfl; exact rfl) | ((with_reducible first | apply g_run); exact rfl; exact gG_) | ((with_reducible first | apply c_seq | apply c_block | apply c_region | apply c_nil | apply c_ret | apply c_exit | apply c_skip)) | ((with_reducible first | apply e_then | apply e_then_ret | apply e_then_exit | apply e_in | apply e_in_ret | apply e_in_same)) | ((with_reducible first | apply o_appd | apply o_appn)))
  refine st_know (fun w' hw' => RunsV.at (hsh _ _ _ _ (by exact rL_) hw') hr0) ?_
  rintro ⟨br, offr, x1, k1, x2, k2, x3, n3, k3, x4, n4, k4, x5, k5, x6, k6, x7, n7, k7, rfl, hd0, hn3, g0⟩
  refine st_know (fun w' hw' => RunsV.at (hsh _ _ _ _ (by exact rL_) hw') hr1) ?_
  rintro ⟨br', offr', y1, l1, y2, l2, y3, m3, l3, y4, m4, l4, y5, l5, y6, l6, y7, m7, l7, ebr, hd1, hm3, g1⟩
  cases ebr
  have hsl : (Plt.slc3 r0.pass r0.slices)[1]? = some (3, 10, 12) := by rw [e03, e04]; rfl
  refine st_know (fun w' hw' => SV.ptr ((hsh _ _ _ _ (by exact rL_) hw').2.2 0 _ _ hd0 hr0).slices hsl) ?_
  rintro ⟨bs, offs, rfl⟩
  have hsn0 : r0.slices.length = 2 := by rw [e04]; rfl
  repeat' (first | ((with_reducible apply o_pick_f); exact rfl; exact decide_eq_false (by omega); exact rfl; exact rfl) | ((with_reducible apply g_run); exact rfl; exact decide_eq_false (by omega)) | ((with_reducible apply o_idx (m := 0)); infer_instance; infer_instance; exact rfl; exact rfl; exact rfl; exact rfl; omega) | ((with_reducible apply o_idx (m := 1)); infer_instance; infer_instance; exact rfl; exact rfl; exact rfl; exact rfl; omega) | ((with_reducible apply o_ldP); infer_instance; exact rfl; (intro w' hw'; first | exact SV.cell (hsh _ _ _ _ (by exact rL_) hw').1 hd0 (g0 _ _ rfl) | exact SV.cell (hsh _ _ _ _ (by exact rL_) hw').1 hd1 (g1 _ _ rfl)); exact rfl) | ((with_reducible apply o_ldPV (l := [.int .i64 3, .int .i64 10, .int .i64 12])); infer_instance; infer_instance; exact rfl; (intro w' hw' j' v' hj'; exact SV.cell ((hsh _ _ _ _ (by exact rL_) hw').2.2 0 _ _ hd0 hr0).slices hsl hj'); exact rfl; exact rfl) | ((first | ((with_reducible apply o_call_pure (f := 20)); exact rfl) | ((with_reducible apply q_call_pure (f := 20)); exact rfl; kernel_rfl; exact rfl; exact sJ_)); exact eV_; exact (fun w hw => same_yes e13 w ((hsh _ _ _ _ (by exact rL_) hw).2.2 1 _ _ hd1 hr1).items (SV.lit [1, 3, 4, 2, 5] encI_len hw (by exact aT_) rfl rfl (by decide)))) | ((first | ((with_reducible apply o_call_pure (f := 24)); exact rfl) | ((with_reducible apply q_call_pure (f := 24)); exact rfl; kernel_rfl; exact rfl; exact sJ_)); exact eV_; exact (fun w hw => lists_is e05 w (((hsh _ _ _ _ (by exact rL_) hw).2.2 0 _ _ hd0 hr0).stk' rfl) (SV.lit ([(_, 3, 3), (_, 2, 2)] : List SD) encS_len hw (by exact aT_) rfl rfl (by decide)) (LL.two' (x := [1, 3, 4]) (y := [2, 5]) encI_len hw (by exact aT_) (by exact aT_) (by decide) (by decide)))) | ((first | ((with_reducible apply o_call_pure (f := 24)); exact rfl) | ((with_reducible apply q_call_pure (f := 24)); exact rfl; kernel_rfl; exact rfl; exact sJ_)); exact eV_; exact (fun w hw => lists_is e14 w (((hsh _ _ _ _ (by exact rL_) hw).2.2 1 _ _ hd1 hr1).stk' rfl) (SV.lit ([(_, 3, 3), (_, 2, 2)] : List SD) encS_len hw (by exact aT_) rfl rfl (by decide)) (LL.two' (x := [3, 2, 5]) (y := [1, 4]) encI_len hw (by exact aT_) (by exact aT_) (by decide) (by decide)))) | ((first | ((with_reducible apply o_call_pure (f := 36)); exact rfl) | ((with_reducible apply q_call_pure (f := 36)); exact rfl; kernel_rfl; exact rfl; exact sJ_)); exact eV_; exact (fun w hw => atp_calls Plt.ex20_valid Plt.ex20_w1 w (ex_plV _ _ _ _ (by exact rL_) hw))) | ((first | ((with_reducible apply o_call_pure (f := 36)); exact rfl) | ((with_reducible apply q_call_pure (f := 36)); exact rfl; kernel_rfl; exact rfl; exact sJ_)); exact eV_; exact (fun w hw => atp_calls Plt.ex20_valid Plt.ex20_w2 w (ex_plV _ _ _ _ (by exact rL_) hw))) | ((first | ((with_reducible apply o_call_pure (f := 36)); exact rfl) | ((with_reducible apply q_call_pure (f := 36)); exact rfl; kernel_rfl; exact rfl; exact sJ_)); exact eV_; exact (fun w hw => atp_calls Plt.ex20_valid Plt.ex20_w3 w (ex_plV _ _ _ _ (by exact rL_) hw))) | ((first | ((with_reducible apply o_call_pure (f := 36)); exact rfl) | ((with_reducible apply q_call_pure (f := 36)); exact rfl; kernel_rfl; exact rfl; exact sJ_)); exact eV_; exact (fun w hw => atp_calls Plt.ex20_valid Plt.ex20_w4 w (ex_plV _ _ _ _ (by exact rL_) hw))) | ((with_reducible first | apply o_move | apply o_assign | apply o_faddr0 | apply o_not_d); exact rfl; exact rfl) | ((with_reducible first | apply o_faddr); exact rfl; exact rfl) | ((with_reducible apply gdo_load); first | refine wo_load (h := ?_) | refine wo_loadAll (h := ?_) | refine wo_loadC (h := ?_) | refine wo_ldV (h := ?_) | refine wo_ldF (h := ?_)) | ((with_reducible first | apply o_eql | apply o_neq | apply o_extract); exact rfl; exact rfl; exact rfl) | ((with_reducible apply gdo_binOp_neq); refine wo_neq_s (h := ?_)) | ((with_reducible apply o_not); exact rfl; exact rfl) | ((with_reducible apply o_pick_f); exact rfl; exact fF_; exact rfl; exact rfl) | ((with_reducible apply o_alloc); exact rfl; intro _) | ((with_reducible apply gdo_store); first | refine wo_store1 (h := ?_) | refine wo_storeA (h := ?_)) | ((with_reducible apply gdo_build); first | refine wo_build (h := ?_)) | ((with_reducible apply o_len); infer_instance; exact rfl; exact rfl) | ((with_reducible apply gdo_buildSlice); refine wo_buildSlice (h := fun _ => ?_)) | ((with_reducible first | apply g_run); exact rfl; exact gG_) | ((with_reducible first | apply c_seq | apply c_block | apply c_region | apply c_nil | apply c_ret | apply c_exit | apply c_skip)) | ((with_reducible apply c_cond_f); exact rfl; exact fF_) | ((with_reducible first | apply e_then | apply e_then_ret | apply e_then_exit | apply e_in | apply e_in_ret | apply e_in_same)) | ((with_reducible first | apply o_appd | apply o_appn)))
  simp only [exN, exQ, sdV, List.cons_append, List.nil_append]
  repeat' (first | ((with_reducible apply o_idx (m := 0)); infer_instance; infer_instance; exact rfl; exact rfl; exact rfl; exact rfl; omega) | ((with_reducible apply o_idx (m := 1)); infer_instance; infer_instance; exact rfl; exact rfl; exact rfl; exact rfl; omega) | ((first | ((with_reducible apply o_call_new (f := 11)); exact rfl) | ((with_reducible apply q_call_new (f := 11)); exact rfl; exact rfl; exact sJ_)); exact eV_; exact (fun w hw => play_calls31 (Plt.calm_of Plt.ex14_valid) w (ex_plV (t := 14) _ _ _ _ (by unfold exN; exact rL_) hw)); rintro v NS_ ⟨as_, cs_, sds, rfl, ⟨hshs, hsl2⟩, oS⟩ <;> (try simp only [List.cons_append, List.nil_append])) | ((with_reducible first | apply o_move | apply o_assign | apply o_faddr0 | apply o_not_d); exact rfl; exact rfl) | ((with_reducible first | apply o_faddr); exact rfl; exact rfl) | ((with_reducible apply gdo_load); first | refine wo_load (h := ?_) | refine wo_loadAll (h := ?_) | refine wo_loadC (h := ?_) | refine wo_ldV (h := ?_) | refine wo_ldF (h := ?_)) | ((with_reducible first | apply o_eql | apply o_neq | apply o_extract); exact rfl; exact rfl; exact rfl) | ((with_reducible apply o_pick_t); exact rfl; exact tT_; exact rfl; exact rfl) | ((with_reducible apply gdo_store); first | refine wo_store1 (h := ?_) | refine wo_storeA (h := ?_)) | ((with_reducible apply o_len); infer_instance; exact rfl; exact rfl) | ((with_reducible first | apply g_run); exact rfl; exact gG_) | ((with_reducible first | apply c_seq | apply c_block | apply c_region | apply c_nil | apply c_ret | apply c_exit | apply c_skip)) | ((with_reducible first | apply e_then | apply e_then_ret | apply e_then_exit | apply e_in | apply e_in_ret | apply e_in_same)))
  refine st_know (fun w' hw' => RunsV.at (hshs _ _ _ _ (by exact rL_) hw') hs0) ?_
  rintro ⟨br, offr, x1, k1, x2, k2, x3, n3, k3, x4, n4, k4, x5, k5, x6, k6, x7, n7, k7, rfl, hd0, hn3, g0⟩
  refine st_know (fun w' hw' => RunsV.at (hshs _ _ _ _ (by exact rL_) hw') hs1) ?_
  rintro ⟨br', offr', y1, l1, y2, l2, y3, m3, l3, y4, m4, l4, y5, l5, y6, l6, y7, m7, l7, ebr, hd1, hm3, g1⟩
  cases ebr
  have hsi : s1.items.length = 0 := by rw [f13]; rfl
  repeat' (first | ((with_reducible apply o_pick_t); exact rfl; exact decide_eq_true (by omega); exact rfl; exact rfl) | ((with_reducible apply g_run); exact rfl; exact decide_eq_true (by omega)) | ((with_reducible apply o_idx (m := 0)); infer_instance; infer_instance; exact rfl; exact rfl; exact rfl; exact rfl; omega) | ((with_reducible apply o_idx (m := 1)); infer_instance; infer_instance; exact rfl; exact rfl; exact rfl; exact rfl; omega) | ((with_reducible apply o_ldP); infer_instance; exact rfl; (intro w' hw'; first | exact SV.cell (hshs _ _ _ _ (by exact rL_) hw').1 hd0 (g0 _ _ rfl) | exact SV.cell (hshs _ _ _ _ (by exact rL_) hw').1 hd1 (g1 _ _ rfl)); exact rfl) | ((first | ((with_reducible apply o_call_pure (f := 36)); exact rfl) | ((with_reducible apply q_call_pure (f := 36)); exact rfl; kernel_rfl; exact rfl; exact sJ_)); exact eV_; exact (fun w hw => atp_calls Plt.ex14_valid Plt.ex14_w w (ex_plV (t := 14) _ _ _ _ (by unfold exN; exact rL_) hw))) | ((with_reducible first | apply o_move | apply o_assign | apply o_faddr0 | apply o_not_d); exact rfl; exact rfl) | ((with_reducible first | apply o_faddr); exact rfl; exact rfl) | ((with_reducible apply gdo_load); first | refine wo_load (h := ?_) | refine wo_loadAll (h := ?_) | refine wo_loadC (h := ?_) | refine wo_ldV (h := ?_) | refine wo_ldF (h := ?_)) | ((with_reducible first | apply o_eql | apply o_neq | apply o_extract); exact rfl; exact rfl; exact rfl) | ((with_reducible apply o_len); infer_instance; exact rfl; exact rfl) | ((with_reducible first | apply c_seq | apply c_block | apply c_region | apply c_nil | apply c_ret | apply c_exit | apply c_skip)) | ((with_reducible first | apply e_then | apply e_then_ret | apply e_then_exit | apply e_in | apply e_in_ret | apply e_in_same)))
  apply r_body; apply res1 Try.results16; exact rV_; intro w' hw
  refine ⟨by simp, hw.below (show AO _ from by exact aO_)⟩
end Go.Proofs.Ytkhaemjoekfhiaa
namespace Go.Sx
open Go Go.RowKit
section
variable {P : Program} {n : Nat} {D : List Deferred} {w0 : World} {F : List (Nat × Value)} {L : List Ent} {J J1 : Made} {Φ : Specs} {X : Act → World → Prop} {kq : Nat} {ops : Array Oper}
variable {d : Tmp} {ty : TypeId} {pos : String} {af : Array Edge} {rest : List Oper}
end
theorem SV.cell1 {α : Type} {w : World} {k m c b off i : Nat} {enc : α → List Value} {xs : List α} {x : α} {u : Value} (h : SV w k enc (.slice (some ⟨b, off, none⟩) m c) xs) (hx : xs[i]? = some x) (hj : (enc x)[0]? = some u) : w.cell? ⟨b, off + i * k, none⟩ = some u := h.cell (j := 0) hx hj
end Go.Sx
namespace Go.Proofs.Ytkhaemjoekfhiaa
open Go Go.Sx Go.RowKit
attribute [local irreducible] WL WC WQ WR WB WF QB St Exit.then Exit.inBlock Exit.noGoto bodyPost roundPost beginK YR RG BM Calls B AgainD MeetD
/-! ## a plant that built made, as it lies -/
theorem built_plv {p : Plt.Plant} {am ai ap : Option Addr} {cm ci cp : Nat} {ds : List MD} {ys : List PD} {NM NI NP NX : List Ent} {TM TI TP : TypeId} (hM : OW TM 5 encMD (.slice am p.ms.length cm) ds NM) (hI : OW TI 3 encItem (.slice ai p.items.length ci) p.items NI) (hP : OW TP 6 encPD (.slice ap p.passes.length cp) ys NP)
    (hl : ds.length = p.ms.length ∧ ys.length = p.passes.length) (hX : Shw NX (fun w => ∀ (i : Nat) (d : MD) (m : Plt.Mach), ds[i]? = some d → p.ms[i]? = some m → MachV w d m)) (hY : Shw NX (fun w => ∀ (i : Nat) (d : PD) (y : Plt.Pass), ys[i]? = some d → p.passes[i]? = some y → PassV w d y)) :
    Shw (NM ++ (NI ++ (NP ++ NX))) (fun w => PlV w ⟨(am, p.ms.length, cm), (ai, p.items.length, ci), (ap, p.passes.length, cp), ds, ys⟩ p) := fun w0 w L L0 hr hw =>
  ⟨(Shw.left (Shw.ow encMD_len hM)) w0 w L L0 hr hw, (Shw.right (Shw.left (Shw.ow encItem_len hI))) w0 w L L0 hr hw, (Shw.right (Shw.right (Shw.left (Shw.ow encPD_len hP)))) w0 w L L0 hr hw, hl.1, hl.2,
    (Shw.right (Shw.right (Shw.right hX))) w0 w L L0 hr hw, (Shw.right (Shw.right (Shw.right hY))) w0 w L L0 hr hw⟩
def builtψ (p : Plt.Plant) (v : Value) (N : List Ent) : Prop := ∃ am cm ai ci ap cp ds ys, v = .agg #[.slice am p.ms.length cm, .slice ai p.items.length ci, .slice ap p.passes.length cp] ∧
  Shw N (fun w => PlV w ⟨(am, p.ms.length, cm), (ai, p.items.length, ci), (ap, p.passes.length, cp), ds, ys⟩ p) ∧ ∀ x ∈ N, x.own = true
theorem built_is {v0 v1 v2 v3 : Value} {x : Plt.Sk} {p : Plt.Plant} (hp : Plt.built x = p) (w : World) (h0 : SV w 1 encB v0 x.ms) (h1 : SV w 1 encB v1 x.shs) (h2 : SV w 1 encB v2 x.its) (h3 : SV w 1 encB v3 x.ps) :
    Calls Try.prog 10 #[.agg #[v0, v1, v2, v3]] w fun e w' => ∃ v N, e = .returned v ∧ builtψ p v N ∧ Rep w w' N ∧ ∀ x ∈ N, x.own = true := by
  subst hp
  refine (built_calls w h0 h1 h2 h3).mono fun e w' ⟨v, N, h1, h2, h3, h4⟩ => ⟨v, N, h1, ?_, h3, h4⟩
  obtain ⟨am, cm, ai, ci, ap, cp, ds, ys, NM, NI, NP, NX, hv, ⟨gM, gI, gP⟩, ⟨hN, oX⟩, hl, hMX, hPX⟩ := h2
  subst hN
  exact ⟨am, cm, ai, ci, ap, cp, ds, ys, hv, built_plv gM gI gP hl hMX hPX, h4⟩
/-- What the laws know of a plant that built made. -/
structure Nice (p : Plt.Plant) : Prop where
  valid : Plt.validF p = (0, 0)
  ms : 1 ≤ p.ms.length ∧ p.ms.length ≤ 3
  items : p.items.length ≤ 40
  passes : p.passes.length ≤ 6
theorem nice_built (x : Plt.Sk) : Nice (Plt.built x) :=
  ⟨Plt.built_valid x, Plt.bMs_len x, by show (Plt.bIs x).length ≤ 40; unfold Plt.bIs; rw [Plt.bIsN_len]; omega, by show (Plt.bAt (Plt.bMs x) (Plt.bIs x) x.ps (min x.ps.length 6)).2.length ≤ 6; rw [Plt.bAt_len]; omega⟩
/-- What a call of a law knows of one run. -/
theorem run_slices {p : Plt.Plant} (hc : Plt.Calm p) {i : Nat} {y : Plt.Pass} {r : Plt.Run} (hy : p.passes[i]? = some y) (hr : (Plt.playF p)[i]? = some r) : r.slices.length ≤ 200 ∧ ∀ s ∈ r.slices, 0 ≤ s.1 ∧ s.1 ≤ s.2 ∧ s.2 ≤ 1051898399 := by
  have h := Plt.runF_slices (stops := Plt.stopsF p.items) (hc.job i y hy)
  have hg := Plt.playF_get hy
  rw [hr] at hg
  rw [← Option.some.inj hg] at h
  exact h
end Go.Proofs.Ytkhaemjoekfhiaa
namespace Go.Sx.Plt
/-! ## the last run that has sorted an item -/
def lastI : Option Nat → Int
  | none => -1
  | some k => k
/-- The same, after the first n items of run k. -/
def keepsF (p : Plant) (x t : Int) (k : Nat) (r : Run) (n : Nat) : Int := if x ∈ r.items.take n ∧ sortedAt p x t k = true then (k : Int) else lastI (lastF p x t k)
end Go.Sx.Plt
namespace Go.Sx.Plt
open Go.Proofs.Ytkhaemjoekfhiaa (mslF_keys psF tkF psF_snoc tkF_snoc)
theorem Ran.stk_len {p : Plant} {h : Hall} {m : Mach} {y : Pass} {r : Run} {ready : Int} (hc : Ran p h m y r ready) : r.res.stackers.length = m.caps.length := by
  have := (srun_feeds hc.res).1
  rw [this]
  exact (Srt.playF_sz m.caps m.sweeps _).st
theorem stops_some {x : Int} : ∀ l : List Item, x ∈ l.map Item.id → ∃ s, asF x (stopsF l) = some s := by
  refine fun l => snoc_ind (p := fun l => x ∈ l.map Item.id → ∃ s, asF x (stopsF l) = some s) (by simp) (fun l a ih h => ?_) l
  rw [stopsF_snoc, asF_put]
  by_cases e : a.id = x
  · exact ⟨a.stop, by rw [if_pos e]⟩
  · rw [if_neg e]
    refine ih ?_
    rw [List.map_append, List.mem_append] at h
    rcases h with h | h
    · exact h
    · simp at h; exact absurd h.symm e
/-- The stacker of a stop; -1 if it has none, or the item is not read. -/
def toF (l : List Row) (stop : Int) (b : Bool) : Int := if b = true then (asF stop (tableF l)).getD (-1) else -1
theorem toF_snoc {l : List Row} {j : Nat} {e : Row} {stop : Int} {b : Bool} (h : l[j]? = some e) : toF (l.take (j + 1)) stop b = if e.stop = stop ∧ b = true then e.st else toF (l.take j) stop b := by
  rw [Go.Proofs.Ytkhaemjoekfhiaa.take_snoc h]
  unfold toF
  rw [tableF_snoc, asF_put]
  by_cases hb : b = true
  · rw [if_pos hb, if_pos hb]
    by_cases hs : e.stop = stop
    · rw [if_pos hs, if_pos ⟨hs, hb⟩]; rfl
    · rw [if_neg hs, if_neg (fun h => hs h.1)]
  · rw [if_neg hb, if_neg hb, if_neg (fun h => hb h.2)]
theorem feed_to {stops : List (Int × Int)} {y : Pass} {x s : Int} (h : asF x stops = some s) : (feedOf stops y x).st = toF y.table s (decide (x ∉ y.unread)) := by
  unfold feedOf toF
  rw [h, Option.getD_some]
  by_cases hu : x ∈ y.unread
  · rw [if_neg (by simp [hu])]
    split
    · simp [hu]
    · rfl
  · rw [if_pos (by simp [hu])]
    split
    · rename_i k hk; rw [hk]; simp [hu]
    · rename_i hk; rw [hk]; rfl
theorem Ran.mem {p : Plant} (hv : Valid p) {i : Nat} {y : Pass} (hy : p.passes[i]? = some y) {m : Mach} (hm : asF y.mach (mslF p.ms) = some (m.caps.length : Int)) {r : Run} {ready : Int} (hc : Ran p (hallAt p i) m y r ready) : (∀ x ∈ r.items, x ∈ p.items.map Item.id) ∧ r.items.Nodup ∧ r.items.length ≤ 2000 := by
  have e := (takeSrc_spec hc.take).1
  rw [List.nil_append] at e
  obtain ⟨_, h1, h2⟩ := hv.feeds (Inv.all hv i) hy hm e
  exact ⟨h1, h2, by rw [hc.items hv hy]; exact hv.taken_len hy⟩
theorem Ran.fin_bd {p : Plant} (hv : Valid p) {i : Nat} {y : Pass} (hy : p.passes[i]? = some y) {m : Mach} (hm : rightM m) {r : Run} {ready : Int} (hc : Ran p (hallAt p i) m y r ready) : (0 ≤ ready ∧ ready ≤ 1051898399) ∧ 0 ≤ r.fin ∧ r.fin ≤ 1051898399 := by
  have hrd := (Inv.all hv i).ready (hv.pok i y hy).1.2.2 hc.take
  refine ⟨hrd, (Inv.all hv i).fin (start := r.start) (sl := r.slices) hv hy hm hc.take ?_⟩
  by_cases hne : r.items = []
  · exact .inl ⟨hne, by rw [hc.slices, if_pos hne], by rw [hc.start, if_pos hne], by rw [hc.fin, if_pos hne]⟩
  · have hsl := hc.slices
    have hst := hc.start
    have hfi := hc.fin
    rw [if_neg hne] at hsl hst hfi
    have hsp := span_min (rel := ready) (l := m.shifts) (need_nonneg (n := r.items.length) hm.2.1.1)
    have he := hc.enough
    have hn1 : 1 ≤ needOf r.items.length m.rate := by
      have := List.length_pos_iff.2 hne
      have := hm.2.1.1
      unfold needOf
      exact Int.le_ediv_of_mul_le (by omega) (by omega)
    refine .inr ⟨hne, hsl, fun h0 => ?_, by rw [hsl, hsp]; omega, hst, hfi⟩
    rw [← hsl, h0, spanF] at hsp
    omega
end Go.Sx.Plt
namespace Go.Proofs.Ytkhaemjoekfhiaa
open Go Go.Sx Go.RowKit
attribute [local irreducible] WL WC WQ WR WB WF QB St Exit.then Exit.inBlock Exit.noGoto bodyPost roundPost beginK YR RG BM Calls B AgainD MeetD
theorem PassV.eqs {w : World} {d : PD} {y : Plt.Pass} (h : PassV w d y) : ∃ x1 k1 x2 k2 x3 k3, d = ⟨y.id, y.mach, y.rel, (x1, y.src.length, k1), (x2, y.table.length, k2), (x3, y.unread.length, k3)⟩ := by
  obtain ⟨x1, k1, e1⟩ := h.src.sd
  obtain ⟨x2, k2, e2⟩ := h.table.sd
  obtain ⟨x3, k3, e3⟩ := h.unread.sd
  refine ⟨x1, k1, x2, k2, x3, k3, ?_⟩
  obtain ⟨a, b, c, i1, i2, i3⟩ := d
  obtain rfl : a = y.id := h.id
  obtain rfl : b = y.mach := h.mach
  obtain rfl : c = y.rel := h.rel
  dsimp only at e1 e2 e3
  rw [e1, e2, e3]
theorem PlV.passAt {w : World} {m i : SD} {ap : Option Addr} {n cp k : Nat} {ds : List MD} {ys : List PD} {p : Plt.Plant} {y : Plt.Pass} (h : PlV w ⟨m, i, (ap, n, cp), ds, ys⟩ p) (hy : p.passes[k]? = some y) : ∃ bP oP x1 k1 x2 k2 x3 k3, ap = some ⟨bP, oP, none⟩ ∧
    ys[k]? = some ⟨y.id, y.mach, y.rel, (x1, y.src.length, k1), (x2, y.table.length, k2), (x3, y.unread.length, k3)⟩ ∧
    ∀ (j : Nat) (u : Value), ([.int .i64 y.id, .int .i64 y.mach, .int .i64 y.rel, .slice x1 y.src.length k1, .slice x2 y.table.length k2, .slice x3 y.unread.length k3] : List Value)[j]? = some u → (encPD ⟨y.id, y.mach, y.rel, (x1, y.src.length, k1), (x2, y.table.length, k2), (x3, y.unread.length, k3)⟩)[j]? = some u := by
  have hl := (List.getElem?_eq_some_iff.1 hy).1
  have hlp := h.lp
  dsimp only at hlp
  obtain ⟨d, hd⟩ : ∃ d, ys[k]? = some d := ⟨_, List.getElem?_eq_getElem (by omega)⟩
  obtain ⟨x1, k1, x2, k2, x3, k3, rfl⟩ := (h.pass k d y hd hy).eqs
  obtain ⟨bP, oP, e⟩ := SV.ptr h.ps hd
  exact ⟨bP, oP, x1, k1, x2, k2, x3, k3, e, hd, fun _ _ h => h⟩
theorem PlV.machAt {w : World} {i ap : SD} {am : Option Addr} {n cm k : Nat} {ds : List MD} {ys : List PD} {p : Plt.Plant} {m : Plt.Mach} (h : PlV w ⟨(am, n, cm), i, ap, ds, ys⟩ p) (hm : p.ms[k]? = some m) : ∃ bM oM x1 k1 x2 k2, am = some ⟨bM, oM, none⟩ ∧
    ds[k]? = some ⟨m.id, m.sweeps, m.rate, (x1, m.caps.length, k1), (x2, m.shifts.length, k2)⟩ ∧
    ∀ (j : Nat) (u : Value), ([.int .i64 m.id, .int .i64 m.sweeps, .int .i64 m.rate, .slice x1 m.caps.length k1, .slice x2 m.shifts.length k2] : List Value)[j]? = some u → (encMD ⟨m.id, m.sweeps, m.rate, (x1, m.caps.length, k1), (x2, m.shifts.length, k2)⟩)[j]? = some u := by
  have hl := (List.getElem?_eq_some_iff.1 hm).1
  have hlm := h.lm
  dsimp only at hlm
  obtain ⟨d, hd⟩ : ∃ d, ds[k]? = some d := ⟨_, List.getElem?_eq_getElem (by omega)⟩
  obtain ⟨x1, k1, x2, k2, rfl⟩ := (h.machs k d m hd hm).eqs
  obtain ⟨bM, oM, e⟩ := SV.ptr h.ms hd
  exact ⟨bM, oM, x1, k1, x2, k2, e, hd, fun _ _ h => h⟩
theorem machine_is {q : PlD} {p : Plt.Plant} {k : Nat} {m : Plt.Mach} {id : Int} {x1 x2 : Option Addr} {k1 k2 : Nat} (hn : (p.ms.map Plt.Mach.id).Nodup) (hid : m.id = id) (hd : q.ds[k]? = some ⟨m.id, m.sweeps, m.rate, (x1, m.caps.length, k1), (x2, m.shifts.length, k2)⟩) (hm : p.ms[k]? = some m) (w : World) (h : PlV w q p) :
    Calls Try.prog 17 #[plV q, .int .i64 id] w fun e w' => e = .returned (.agg #[.int .i64 m.id, .int .i64 m.sweeps, .int .i64 m.rate, .slice x1 m.caps.length k1, .slice x2 m.shifts.length k2]) ∧ Below w.heap.size w w' := by
  subst hid; exact machine_calls hn hd hm w h
end Go.Proofs.Ytkhaemjoekfhiaa
namespace Go.Proofs.Ytkhaemjoekfhiaa
open Go Go.Sx Go.RowKit
section
variable {r : Option Nat} {P : Program} {n : Nat} {D : List Deferred} {w0 : World} {F : List (Nat × Value)} {L : List Ent} {Q : Exit → Act → World → Prop} {ops : Array Oper}
variable {d : Tmp} {ty : TypeId} {pos : String} {af : Array Edge} {rest : List Oper}
end
attribute [local irreducible] WL WC WQ WR WB WF QB St Exit.then Exit.inBlock Exit.noGoto bodyPost roundPost beginK YR RG BM Calls B AgainD MeetD
theorem holds_is {d : RD} {r : Plt.Run} {x kd ps nu : Int} {b : Bool} (hkd : kd = 2 ∨ kd = 3 ∨ kd = 4) (hb : Plt.allN r x r.res.stackers.length ≤ 1000000) (hh : decide (Plt.holdsF r x kd ps nu) = b) (w : World) (h : RunV w d r) :
    Calls Try.prog 15 #[runDV d, .int .i64 x, .agg #[.int .u8 kd, .int .i64 ps, .int .i64 nu]] w fun e w' => e = .returned (.bool b) ∧ Below w.heap.size w w' := by
  subst hh; exact holds_calls hkd hb w h
/-! ## PlantKeeps -/
end Go.Proofs.Ytkhaemjoekfhiaa
