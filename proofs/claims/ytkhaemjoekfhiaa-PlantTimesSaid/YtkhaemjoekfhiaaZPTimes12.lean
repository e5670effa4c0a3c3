/-
  PlantTimes: whatever the plant in small numbers, the law returns true, and its argument reads as it did. Conditions: none.
-/
import Derived.Test.YtkhaemjoekfhiaaZPTimes3
import Derived.Test.YtkhaemjoekfhiaaZPTimes11
import Derived.Test.YtkhaemjoekfhiaaZPTimes9
import Derived.Test.YtkhaemjoekfhiaaZPTimes2
set_option linter.unusedSimpArgs false
set_option linter.unusedVariables false
set_option linter.unusedSectionVars false
namespace Go.Proofs.Ytkhaemjoekfhiaa
open Go Go.Sx Go.RowKit
attribute [local irreducible] WL WC WQ WR WB WF QB St Exit.then Exit.inBlock Exit.noGoto bodyPost roundPost beginK YR RG BM Calls B AgainD MeetD
theorem RunsV.cap {w : World} {a : Option Addr} {n c : Nat} {ds : List RD} {runs : List Plt.Run} (h : RunsV w (.slice a n c) ds runs) : n ≤ c := by
  obtain ⟨_, _, e, hc, _⟩ := h.1.open
  cases e
  exact hc.1
theorem SV_max {α : Type} {w : World} {k : Nat} {v : Value} {enc : α → List Value} {xs : List α} (h : SV w k enc v xs) : xs.length ≤ 9223372036854775807 := by
  obtain ⟨_, _, _, hc, _⟩ := h.open
  exact hc.2
theorem fits_is {id sw ra t n : Int} {x1 x2 : Option Addr} {k1 z1 k2 z2 : Nat} {l : List Plt.Sh} {b : Bool} (hw : Plt.wrongS 0 0 l = none) (hl : l.length ≤ 200) (ht : 0 ≤ t ∧ t ≤ 1051898399) (hr : 1 ≤ ra ∧ ra ≤ 1000) (hb : decide (Plt.haveF t l * ra ≥ n) = b) (w : World) (h : SV w 2 encSh (.slice x2 k2 z2) l) :
    Calls Try.prog 18 #[.agg #[.int .i64 id, .int .i64 sw, .int .i64 ra, .slice x1 k1 z1, .slice x2 k2 z2], .int .i64 t, .int .i64 n] w fun e w' => e = .returned (.bool b) ∧ Below w.heap.size w w' := by
  subst hb
  exact fits_calls (fun s hs => by have := Plt.wrongS_bd (by omega) hw s hs; omega) hl (by omega) hr w h
/-! ## PlantTimes -/
set_option maxHeartbeats 32000000 in
set_option maxRecDepth 100000 in
theorem times_calls {v0 v1 v2 v3 : Value} {x : Plt.Sk} (w : World) (h0 : SV w 1 encB v0 x.ms) (h1 : SV w 1 encB v1 x.shs) (h2 : SV w 1 encB v2 x.its) (h3 : SV w 1 encB v3 x.ps) :
    Calls Try.prog 4 #[.agg #[v0, v1, v2, v3]] w fun e w' => e = .returned (.bool true) ∧ Below w.heap.size w w' := by
  obtain ⟨p, hp⟩ : ∃ p, Plt.built x = p := ⟨_, rfl⟩
  have hbt := fun (w' : World) (L : List Ent) (hw : Rep w w' L) (ho : AO L) => built_is hp w' (h0.keep hw ho) (h1.keep hw ho) (h2.keep hw ho) (h3.keep hw ho)
  have hnice := nice_built x
  rw [hp] at hnice
  have hv := Plt.valid_of hnice.valid
  have hcalm := Plt.calm_of hnice.valid
  have hil := hnice.items
  have hpl := hnice.passes
  have hrl0 := Plt.playF_len p
  clear h0 h1 h2 h3
  refine f_enter1 Try.func4 rfl Try.ntmps4 rfl (Rep.start w) ?_
  repeat' (first | ((with_reducible apply c_cond_f); exact rfl; exact decide_eq_false (by omega)) | ((with_reducible apply o_pick_f); exact rfl; exact decide_eq_false (by omega); exact rfl; exact rfl) | ((with_reducible apply g_run); exact rfl; exact decide_eq_false (by omega)) | ((first | ((with_reducible apply o_call_new (f := 10)); exact rfl) | ((with_reducible apply q_call_new (f := 10)); exact rfl; exact rfl; exact sJ_)); exact eV_; exact (fun w hw => hbt w _ hw (by exact aO_)); rintro v NB ⟨am, cm, ai, ci, ap, cp, ds, ys, rfl, hB, oB⟩ <;> (try simp only [List.cons_append, List.nil_append])) | ((first | ((with_reducible apply o_call_new (f := 11)); exact rfl) | ((with_reducible apply q_call_new (f := 11)); exact rfl; exact rfl; exact sJ_)); exact eV_; exact (fun w hw => play_calls31 hcalm w (hB _ _ _ _ (by exact rL_) hw)); rintro v NR ⟨ar, cr, rds, rfl, ⟨hR, hrl⟩, oR⟩ <;> (try simp only [List.cons_append, List.nil_append])) | ((with_reducible first | apply o_move | apply o_assign | apply o_faddr0 | apply o_not_d); exact rfl; exact rfl) | ((with_reducible apply gdo_load); first | refine wo_load (h := ?_) | refine wo_loadAll (h := ?_) | refine wo_loadC (h := ?_) | refine wo_ldV (h := ?_) | refine wo_ldF (h := ?_)) | ((with_reducible first | apply o_lss | apply o_leq | apply o_gtr | apply o_geq | apply o_eql | apply o_neq | apply o_extract | apply o_max2); exact rfl; exact rfl; exact rfl) | ((with_reducible apply o_alloc); exact rfl; intro _) | ((with_reducible apply o_box); exact rfl; exact rfl; exact rfl; intro _) | ((with_reducible apply gdo_store); first | refine wo_store1 (h := ?_) | refine wo_storeA (h := ?_)) | ((with_reducible apply o_len); infer_instance; exact rfl; exact rfl) | ((with_reducible first | apply c_seq | apply c_block | apply c_region | apply c_nil | apply c_ret | apply c_exit | apply c_skip)) | ((with_reducible first | apply e_then | apply e_then_ret | apply e_then_exit | apply e_in | apply e_in_ret | apply e_in_same)))
  rename_i b1 b3
  apply c_loop (σ := Nat) (Fs := fun k => [(42, .int .i64 k), (41, .int .i64 (Plt.playF p).length), (40, .slice ar (Plt.playF p).length cr), (4, .slice ar (Plt.playF p).length cr), (3, ptr b3)])
    (Ls := fun k => NR ++ (⟨b3, Ce [.slice am p.ms.length cm, .slice ai p.items.length ci, .slice ap p.passes.length cp] 29, true⟩ :: (NB ++ []))) (I := fun k => k ≤ (Plt.playF p).length) (μ := fun k => (Plt.playF p).length - k) (s0 := 0)
  · exact Nat.zero_le _
  · exact fS_
  · exact hS_
  intro k hk
  have hk : k ≤ (Plt.playF p).length := hk
  by_cases hlt2 : k < (Plt.playF p).length
  · obtain ⟨r, hr⟩ : ∃ r, (Plt.playF p)[k]? = some r := ⟨_, List.getElem?_eq_getElem hlt2⟩
    obtain ⟨y, hy⟩ : ∃ y, p.passes[k]? = some y := ⟨_, List.getElem?_eq_getElem (by omega)⟩
    obtain ⟨hsn, hsb⟩ := run_slices hcalm hy hr
    obtain ⟨jm, m, hm, hmid, hmr, -, -, hmsl, hcs⟩ := hv.run hy hr
    have hrate := hmr.2.1
    refine st_know (fun w' hw' => RunsV.at (hR _ _ _ _ (by exact rL_) hw') hr) ?_; rintro ⟨br, offr, x1, k1, x2, k2, x3, n3, k3, x4, n4, k4, x5, k5, x6, k6, x7, n7, k7, rfl, hd, hn3, g0⟩
    refine st_know (fun w' hw' => PlV.passAt (hB _ _ _ _ (by exact rL_) hw') hy) ?_; rintro ⟨bP, oP, p1, l1, p2, l2, p3, l3, rfl, hpd, gp⟩
    refine st_know (fun w' hw' => PlV.machAt (hB _ _ _ _ (by exact rL_) hw') hm) ?_; rintro ⟨bM, oM, m1, l4, m2, l5, rfl, hdm, gm⟩
    refine st_know (fun w' hw' => RunsV.cap (hR _ _ _ _ (by exact rL_) hw')) ?_
    intro hcap
    refine st_know (fun w' hw' => SV_max ((hB _ _ _ _ (by exact rL_) hw').pass k _ _ hpd hy).src) ?_
    intro hsrl
    repeat' (first | ((with_reducible apply c_cond_t); exact rfl; exact decide_eq_true (by omega)) | ((with_reducible apply o_ldPV (l := [.int .i64 r.pass, .int .i64 r.start, .int .i64 r.fin, .slice x1 r.items.length k1, .slice x2 r.slices.length k2, .slice x3 n3 k3, .slice x4 n4 k4, .slice x5 r.res.over.length k5, .slice x6 r.res.rej.length k6, .slice x7 n7 k7])); infer_instance; infer_instance; exact rfl; (intro w' hw' j' v' hj'; exact SV.cell (hR _ _ _ _ (by exact rL_) hw').1 hd (g0 _ _ hj')); exact rfl; exact rfl) | ((with_reducible apply o_ldPV (l := [.int .i64 y.id, .int .i64 y.mach, .int .i64 y.rel, .slice p1 y.src.length l1, .slice p2 y.table.length l2, .slice p3 y.unread.length l3])); infer_instance; infer_instance; exact rfl; (intro w' hw' j' v' hj'; exact SV.cell (hB _ _ _ _ (by exact rL_) hw').ps hpd (gp _ _ hj')); exact rfl; exact rfl) | ((first | ((with_reducible apply o_call_pure (f := 17)); exact rfl) | ((with_reducible apply q_call_pure (f := 17)); exact rfl; kernel_rfl; exact rfl; exact sJ_)); exact eV_; exact (fun w hw => machine_is hv.mnd hmid hdm hm w (hB _ _ _ _ (by exact rL_) hw))) | ((with_reducible apply o_sliceH (h' := k)); infer_instance; infer_instance; exact rfl; exact rfl; (exact .inr ⟨_, rfl⟩); omega; exact rfl) | ((with_reducible first | apply o_move | apply o_assign | apply o_faddr0 | apply o_not_d); exact rfl; exact rfl) | ((with_reducible apply gdo_load); first | refine wo_load (h := ?_) | refine wo_loadAll (h := ?_) | refine wo_loadC (h := ?_) | refine wo_ldV (h := ?_) | refine wo_ldF (h := ?_)) | ((with_reducible first | apply o_lss | apply o_leq | apply o_gtr | apply o_geq | apply o_eql | apply o_neq | apply o_extract | apply o_max2); exact rfl; exact rfl; exact rfl) | ((with_reducible apply o_alloc); exact rfl; intro _) | ((with_reducible apply gdo_store); first | refine wo_store1 (h := ?_) | refine wo_storeA (h := ?_)) | ((with_reducible apply o_len); infer_instance; exact rfl; exact rfl) | ((with_reducible apply o_idx); infer_instance; infer_instance; exact rfl; exact rfl; (first | exact rfl | omega); exact rfl; (first | assumption | omega | decide)) | ((with_reducible first | apply c_seq | apply c_block | apply c_region | apply c_nil | apply c_ret | apply c_exit | apply c_skip)) | ((with_reducible first | apply e_then | apply e_then_ret | apply e_then_exit | apply e_in | apply e_in_ret | apply e_in_same)))
    rename_i b7 b8 b9
    obtain ⟨hrdy1, hrdy2⟩ := Plt.ready_ok hv hy
    have hrdb := fun j => Plt.rd_bd hv hy j
    apply c_loop (σ := Nat) (Fs := fun j => [(62, .int .i64 j), (61, .int .i64 k), (60, .slice (some ⟨br, offr, none⟩) k cr), (11, .bool (Plt.rdF p y j).2), (10, .int .i64 (Plt.rdF p y j).1), (9, ptr b9), (8, ptr b8), (7, ptr b7), (6, .int .i64 k), (42, .int .i64 k), (41, .int .i64 (Plt.playF p).length), (40, .slice (some ⟨br, offr, none⟩) (Plt.playF p).length cr), (4, .slice (some ⟨br, offr, none⟩) (Plt.playF p).length cr), (3, ptr b3)])
      (Ls := fun j => ⟨b9, Ce [.int .i64 m.id, .int .i64 m.sweeps, .int .i64 m.rate, .slice m1 m.caps.length l4, .slice m2 m.shifts.length l5] 61, true⟩ :: ⟨b8, Ce [.int .i64 y.id, .int .i64 y.mach, .int .i64 y.rel, .slice p1 y.src.length l1, .slice p2 y.table.length l2, .slice p3 y.unread.length l3] 58, true⟩ :: ⟨b7, Ce [.int .i64 r.pass, .int .i64 r.start, .int .i64 r.fin, .slice x1 r.items.length k1, .slice x2 r.slices.length k2, .slice x3 n3 k3, .slice x4 n4 k4, .slice x5 r.res.over.length k5, .slice x6 r.res.rej.length k6, .slice x7 n7 k7] 50, true⟩ :: (NR ++ (⟨b3, Ce [.slice (some ⟨bM, oM, none⟩) p.ms.length cm, .slice ai p.items.length ci, .slice (some ⟨bP, oP, none⟩) p.passes.length cp] 29, true⟩ :: (NB ++ [])))) (I := fun j => j ≤ k) (μ := fun j => k - j) (s0 := 0)
    · exact Nat.zero_le _
    · exact fS_
    · exact hS_
    intro j hj
    have hj : j ≤ k := hj
    by_cases hlt3 : j < k
    · obtain ⟨r', hr'⟩ : ∃ r', (Plt.playF p)[j]? = some r' := ⟨_, List.getElem?_eq_getElem (by omega)⟩
      obtain ⟨z, hz⟩ : ∃ z, p.passes[j]? = some z := ⟨_, List.getElem?_eq_getElem (by omega)⟩
      have hrj := hrdb j
      have hstep : Plt.rdF p y (j + 1) = (if Plt.takesF y.src z.id = true ∨ z.mach = y.mach then max (Plt.rdF p y j).1 (Plt.finF p j) else (Plt.rdF p y j).1, (Plt.rdF p y j).2 && (!Plt.takesF y.src z.id || decide (0 ≤ Plt.finF p j))) := by rw [Plt.rdF, hz]
      have hfb := Plt.fin_bd hv j
      rw [Plt.finF_at hr'] at hstep hfb
      generalize (Plt.rdF p y j).1 = R at hstep hrj ⊢
      generalize (Plt.rdF p y j).2 = O at hstep ⊢
      refine st_know (fun w' hw' => RunsV.at (hR _ _ _ _ (by exact rL_) hw') hr') ?_
      rintro ⟨_, _, y1, u1, y2, u2, y3, o3, u3, y4, o4, u4, y5, u5, y6, u6, y7, o7, u7, ebr, hdj, _, gj⟩
      cases ebr
      refine st_know (fun w' hw' => PlV.passAt (hB _ _ _ _ (by exact rL_) hw') hz) ?_
      rintro ⟨_, _, z1, c1, z2, c2, z3, c3, ebp, hpj, gpj⟩
      cases ebp
      repeat' (first | ((with_reducible first | apply o_move | apply o_assign | apply o_faddr0 | apply o_not_d); exact rfl; exact rfl) | ((with_reducible apply gdo_load); first | refine wo_load (h := ?_) | refine wo_loadAll (h := ?_) | refine wo_loadC (h := ?_) | refine wo_ldV (h := ?_) | refine wo_ldF (h := ?_)) | ((with_reducible first | apply o_lss | apply o_leq | apply o_gtr | apply o_geq | apply o_eql | apply o_neq | apply o_extract | apply o_max2); exact rfl; exact rfl; exact rfl) | ((with_reducible apply o_len); infer_instance; exact rfl; exact rfl) | ((with_reducible first | apply c_seq | apply c_block | apply c_region | apply c_nil | apply c_ret | apply c_exit | apply c_skip)) | ((with_reducible apply c_cond_t); exact rfl; exact tT_) | ((with_reducible first | apply e_then | apply e_then_ret | apply e_then_exit | apply e_in | apply e_in_ret | apply e_in_same)))
      apply c_loop (σ := Nat) (Fs := fun n => [(68, .int .i64 n), (67, .int .i64 y.src.length), (66, .slice p1 y.src.length l1), (13, .bool (Plt.takesF (y.src.take n) z.id)), (12, .int .i64 j), (62, .int .i64 j), (61, .int .i64 k), (60, .slice (some ⟨br, offr, none⟩) k cr), (11, .bool O), (10, .int .i64 R), (9, ptr b9), (8, ptr b8), (7, ptr b7), (6, .int .i64 k), (42, .int .i64 k), (41, .int .i64 (Plt.playF p).length), (40, .slice (some ⟨br, offr, none⟩) (Plt.playF p).length cr), (4, .slice (some ⟨br, offr, none⟩) (Plt.playF p).length cr), (3, ptr b3)])
        (Ls := fun n => ⟨b9, Ce [.int .i64 m.id, .int .i64 m.sweeps, .int .i64 m.rate, .slice m1 m.caps.length l4, .slice m2 m.shifts.length l5] 61, true⟩ :: ⟨b8, Ce [.int .i64 y.id, .int .i64 y.mach, .int .i64 y.rel, .slice p1 y.src.length l1, .slice p2 y.table.length l2, .slice p3 y.unread.length l3] 58, true⟩ :: ⟨b7, Ce [.int .i64 r.pass, .int .i64 r.start, .int .i64 r.fin, .slice x1 r.items.length k1, .slice x2 r.slices.length k2, .slice x3 n3 k3, .slice x4 n4 k4, .slice x5 r.res.over.length k5, .slice x6 r.res.rej.length k6, .slice x7 n7 k7] 50, true⟩ :: (NR ++ (⟨b3, Ce [.slice (some ⟨bM, oM, none⟩) p.ms.length cm, .slice ai p.items.length ci, .slice (some ⟨bP, oP, none⟩) p.passes.length cp] 29, true⟩ :: (NB ++ [])))) (I := fun n => n ≤ y.src.length) (μ := fun n => y.src.length - n) (s0 := 0)
      · exact Nat.zero_le _
      · exact fS_
      · exact hS_
      intro n hn
      have hn : n ≤ y.src.length := hn
      by_cases hlt4 : n < y.src.length
      · obtain ⟨⟨s1, s2⟩, hs⟩ : ∃ s, y.src[n]? = some s := ⟨_, List.getElem?_eq_getElem hlt4⟩
        have htk := Plt.takesF_snoc z.id hs
        dsimp only at htk
        refine st_know (fun w' hw' => SV.ptr ((hB _ _ _ _ (by exact rL_) hw').pass k _ _ hpd hy).src hs) ?_
        rintro ⟨be, oe, rfl⟩
        cases hb : Plt.takesF (y.src.take n) z.id with
        | true =>
          rw [hb, Bool.true_or] at htk
          as_aux_lemma =>
            repeat' (first | ((with_reducible apply c_cond_t); exact rfl; exact decide_eq_true (by omega)) | ((with_reducible apply o_ldPV (l := [.int .i64 s1, .int .i64 s2])); infer_instance; infer_instance; exact rfl; (intro w' hw' j' v' hj'; exact SV.cell ((hB _ _ _ _ (by exact rL_) hw').pass k _ _ hpd hy).src hs hj'); exact rfl; exact rfl) | ((with_reducible first | apply o_move | apply o_assign | apply o_faddr0 | apply o_not_d); exact rfl; exact rfl) | ((with_reducible first | apply o_lss | apply o_leq | apply o_gtr | apply o_geq | apply o_eql | apply o_neq | apply o_extract | apply o_max2); exact rfl; exact rfl; exact rfl) | ((with_reducible first | apply o_add | apply o_sub); exact rfl; exact rfl; exact rfl; (constructor <;> omega)) | ((with_reducible apply o_alloc); exact rfl; intro _) | ((with_reducible apply gdo_store); first | refine wo_store1 (h := ?_) | refine wo_storeA (h := ?_)) | ((with_reducible apply o_idx); infer_instance; infer_instance; exact rfl; exact rfl; (first | exact rfl | omega); exact rfl; (first | assumption | omega | decide)) | ((with_reducible first | apply c_seq | apply c_block | apply c_region | apply c_nil | apply c_ret | apply c_exit | apply c_skip)) | ((with_reducible first | apply e_then | apply e_then_ret | apply e_then_exit | apply e_in | apply e_in_ret | apply e_in_same)) | ((with_reducible apply c_regionD0 (id := 18) []); kernel_rfl; kernel_rfl) | ((with_reducible apply q_nil); try simp only [ents, List.cons_append, List.nil_append]) | ((with_reducible first | apply q_move | apply q_assign | apply q_faddr0); exact rfl; exact rfl) | ((with_reducible apply q_pick_t); exact rfl; exact tT_; exact rfl; exact rfl) | ((with_reducible apply h_skip); exact rfl; exact gG_; exact rfl))
            refine l_again (n + 1) (show n + 1 ≤ y.src.length by omega) (show y.src.length - (n + 1) < y.src.length - n by omega) ?_ ?_
            · (try dsimp only); rw [htk]; exact fS_
            · exact hS_
        | false =>
          rw [hb, Bool.false_or] at htk
          as_aux_lemma =>
            repeat' (first | ((with_reducible apply c_cond_t); exact rfl; exact decide_eq_true (by omega)) | ((with_reducible apply o_ldPV (l := [.int .i64 s1, .int .i64 s2])); infer_instance; infer_instance; exact rfl; (intro w' hw' j' v' hj'; exact SV.cell ((hB _ _ _ _ (by exact rL_) hw').pass k _ _ hpd hy).src hs hj'); exact rfl; exact rfl) | ((with_reducible apply q_ldP); infer_instance; exact rfl; exact rfl; exact sJ_; (intro w' hw'; first | exact SV.cell1 (hB _ _ _ _ (by exact rL_) hw').ps hpj (gpj 0 _ rfl) | exact SV.cell (hB _ _ _ _ (by exact rL_) hw').ps hpj (gpj 1 _ rfl)); exact rfl) | ((with_reducible first | apply o_move | apply o_assign | apply o_faddr0 | apply o_not_d); exact rfl; exact rfl) | ((with_reducible first | apply o_lss | apply o_leq | apply o_gtr | apply o_geq | apply o_eql | apply o_neq | apply o_extract | apply o_max2); exact rfl; exact rfl; exact rfl) | ((with_reducible first | apply o_add | apply o_sub); exact rfl; exact rfl; exact rfl; (constructor <;> omega)) | ((with_reducible apply o_alloc); exact rfl; intro _) | ((with_reducible apply gdo_store); first | refine wo_store1 (h := ?_) | refine wo_storeA (h := ?_)) | ((with_reducible apply o_idx); infer_instance; infer_instance; exact rfl; exact rfl; (first | exact rfl | omega); exact rfl; (first | assumption | omega | decide)) | ((with_reducible first | apply c_seq | apply c_block | apply c_region | apply c_nil | apply c_ret | apply c_exit | apply c_skip)) | ((with_reducible first | apply e_then | apply e_then_ret | apply e_then_exit | apply e_in | apply e_in_ret | apply e_in_same)) | ((with_reducible apply c_regionD0 (id := 18) []); kernel_rfl; kernel_rfl) | ((with_reducible apply q_nil); try simp only [ents, List.cons_append, List.nil_append]) | ((with_reducible first | apply q_move | apply q_assign | apply q_faddr0); exact rfl; exact rfl) | ((with_reducible first | apply q_faddr); exact rfl; exact rfl) | ((with_reducible apply gdq_load); first | refine wq_load (h := ?_) | refine wq_loadAll (h := ?_) | refine wq_loadC (h := ?_) | refine wq_ldV (h := ?_) | refine wq_ldF (h := ?_)) | ((with_reducible first | apply q_lss | apply q_gtr | apply q_geq | apply q_eql | apply q_neq | apply q_extract); exact rfl; exact rfl; exact rfl) | ((with_reducible apply q_pick_f); exact rfl; exact fF_; exact rfl; exact rfl) | ((with_reducible apply q_idx); infer_instance; infer_instance; exact rfl; exact rfl; (first | exact rfl | omega); exact rfl; (first | assumption | omega | decide)) | ((with_reducible first | apply h_run); exact rfl; exact gG_))
            refine l_again (n + 1) (show n + 1 ≤ y.src.length by omega) (show y.src.length - (n + 1) < y.src.length - n by omega) ?_ ?_
            · (try dsimp only); rw [htk]; exact fS_
            · exact hS_
      obtain rfl : n = y.src.length := by omega
      rw [List.take_length]
      obtain ⟨mx, hmx⟩ : ∃ mx, (if R < r'.fin then r'.fin else R) = mx := ⟨_, rfl⟩
      have hmx2 : max R r'.fin = mx := by rw [← hmx]; split <;> omega
      cases htk : Plt.takesF y.src z.id with
      | true =>
        rw [htk, if_pos (.inl rfl), hmx2] at hstep
        cases O with
        | true =>
          as_aux_lemma =>
            repeat' (first | ((with_reducible apply c_cond_f); exact rfl; exact decide_eq_false (by omega)) | ((with_reducible apply o_ldP); infer_instance; exact rfl; (intro w' hw'; exact SV.cell (hR _ _ _ _ (by exact rL_) hw').1 hdj (gj 2 _ rfl)); exact rfl) | ((with_reducible apply o_maxE (v := mx)); exact rfl; exact rfl; exact hmx; exact rfl) | ((with_reducible first | apply o_move | apply o_assign | apply o_faddr0 | apply o_not_d); exact rfl; exact rfl) | ((with_reducible first | apply o_faddr); exact rfl; exact rfl) | ((with_reducible first | apply o_lss | apply o_leq | apply o_gtr | apply o_geq | apply o_eql | apply o_neq | apply o_extract | apply o_max2); exact rfl; exact rfl; exact rfl) | ((with_reducible apply o_not); exact rfl; exact rfl) | ((with_reducible first | apply o_add | apply o_sub); exact rfl; exact rfl; exact rfl; (constructor <;> omega)) | ((with_reducible apply o_pick_t); exact rfl; exact tT_; exact rfl; exact rfl) | ((with_reducible apply o_pick_f); exact rfl; exact fF_; exact rfl; exact rfl) | ((with_reducible apply o_idx); infer_instance; infer_instance; exact rfl; exact rfl; (first | exact rfl | omega); exact rfl; (first | assumption | omega | decide)) | ((with_reducible first | apply g_run); exact rfl; exact gG_) | ((with_reducible first | apply c_seq | apply c_block | apply c_region | apply c_nil | apply c_ret | apply c_exit | apply c_skip)) | ((with_reducible apply c_cond_t); exact rfl; exact tT_) | ((with_reducible first | apply e_then | apply e_then_ret | apply e_then_exit | apply e_in | apply e_in_ret | apply e_in_same)) | ((with_reducible apply c_regionD0 (id := 21) []); kernel_rfl; kernel_rfl) | ((with_reducible apply q_nil); try simp only [ents, List.cons_append, List.nil_append]) | ((with_reducible first | apply q_move | apply q_assign | apply q_faddr0); exact rfl; exact rfl) | ((with_reducible apply q_pick_t); exact rfl; exact tT_; exact rfl; exact rfl) | ((with_reducible apply h_skip); exact rfl; exact gG_; exact rfl))
            refine l_again (j + 1) (show j + 1 ≤ k by omega) (show k - (j + 1) < k - j by omega) ?_ ?_
            · (try dsimp only); rw [hstep]; exact fS_
            · exact hS_
        | false =>
          as_aux_lemma =>
            repeat' (first | ((with_reducible apply c_cond_f); exact rfl; exact decide_eq_false (by omega)) | ((with_reducible apply o_ldP); infer_instance; exact rfl; (intro w' hw'; exact SV.cell (hR _ _ _ _ (by exact rL_) hw').1 hdj (gj 2 _ rfl)); exact rfl) | ((with_reducible apply o_maxE (v := mx)); exact rfl; exact rfl; exact hmx; exact rfl) | ((with_reducible first | apply o_move | apply o_assign | apply o_faddr0 | apply o_not_d); exact rfl; exact rfl) | ((with_reducible first | apply o_faddr); exact rfl; exact rfl) | ((with_reducible first | apply o_lss | apply o_leq | apply o_gtr | apply o_geq | apply o_eql | apply o_neq | apply o_extract | apply o_max2); exact rfl; exact rfl; exact rfl) | ((with_reducible first | apply o_add | apply o_sub); exact rfl; exact rfl; exact rfl; (constructor <;> omega)) | ((with_reducible apply o_pick_f); exact rfl; exact fF_; exact rfl; exact rfl) | ((with_reducible apply o_idx); infer_instance; infer_instance; exact rfl; exact rfl; (first | exact rfl | omega); exact rfl; (first | assumption | omega | decide)) | ((with_reducible apply g_skip); exact rfl; exact gG_; exact rfl) | ((with_reducible apply g_skip_undef); exact rfl; exact rfl) | ((with_reducible first | apply c_seq | apply c_block | apply c_region | apply c_nil | apply c_ret | apply c_exit | apply c_skip)) | ((with_reducible apply c_cond_t); exact rfl; exact tT_) | ((with_reducible first | apply e_then | apply e_then_ret | apply e_then_exit | apply e_in | apply e_in_ret | apply e_in_same)) | ((with_reducible apply c_regionD0 (id := 21) []); kernel_rfl; kernel_rfl) | ((with_reducible apply q_nil); try simp only [ents, List.cons_append, List.nil_append]) | ((with_reducible first | apply q_move | apply q_assign | apply q_faddr0); exact rfl; exact rfl) | ((with_reducible apply q_pick_t); exact rfl; exact tT_; exact rfl; exact rfl) | ((with_reducible apply h_skip); exact rfl; exact gG_; exact rfl))
            refine l_again (j + 1) (show j + 1 ≤ k by omega) (show k - (j + 1) < k - j by omega) ?_ ?_
            · (try dsimp only); rw [hstep]; exact fS_
            · exact hS_
      | false =>
        rw [htk] at hstep
        by_cases hma : z.mach = y.mach
        · rw [if_pos (.inr hma), hmx2] at hstep
          cases O with
          | true =>
            as_aux_lemma =>
              repeat' (first | ((with_reducible apply c_cond_t); exact rfl; exact decide_eq_true (by omega)) | ((with_reducible apply c_cond_f); exact rfl; exact decide_eq_false (by omega)) | ((with_reducible apply o_ldP); infer_instance; exact rfl; (intro w' hw'; exact SV.cell (hR _ _ _ _ (by exact rL_) hw').1 hdj (gj 2 _ rfl)); exact rfl) | ((with_reducible apply q_ldP); infer_instance; exact rfl; exact rfl; exact sJ_; (intro w' hw'; first | exact SV.cell1 (hB _ _ _ _ (by exact rL_) hw').ps hpj (gpj 0 _ rfl) | exact SV.cell (hB _ _ _ _ (by exact rL_) hw').ps hpj (gpj 1 _ rfl)); exact rfl) | ((with_reducible apply o_maxE (v := mx)); exact rfl; exact rfl; exact hmx; exact rfl) | ((with_reducible first | apply o_move | apply o_assign | apply o_faddr0 | apply o_not_d); exact rfl; exact rfl) | ((with_reducible first | apply o_faddr); exact rfl; exact rfl) | ((with_reducible first | apply o_lss | apply o_leq | apply o_gtr | apply o_geq | apply o_eql | apply o_neq | apply o_extract | apply o_max2); exact rfl; exact rfl; exact rfl) | ((with_reducible apply o_not); exact rfl; exact rfl) | ((with_reducible first | apply o_add | apply o_sub); exact rfl; exact rfl; exact rfl; (constructor <;> omega)) | ((with_reducible apply o_pick_t); exact rfl; exact tT_; exact rfl; exact rfl) | ((with_reducible apply o_idx); infer_instance; infer_instance; exact rfl; exact rfl; (first | exact rfl | omega); exact rfl; (first | assumption | omega | decide)) | ((with_reducible first | apply g_run); exact rfl; exact gG_) | ((with_reducible apply g_skip); exact rfl; exact gG_; exact rfl) | ((with_reducible first | apply c_seq | apply c_block | apply c_region | apply c_nil | apply c_ret | apply c_exit | apply c_skip)) | ((with_reducible first | apply e_then | apply e_then_ret | apply e_then_exit | apply e_in | apply e_in_ret | apply e_in_same)) | ((with_reducible apply c_regionD0 (id := 21) []); kernel_rfl; kernel_rfl) | ((with_reducible apply q_nil); try simp only [ents, List.cons_append, List.nil_append]) | ((with_reducible first | apply q_move | apply q_assign | apply q_faddr0); exact rfl; exact rfl) | ((with_reducible first | apply q_faddr); exact rfl; exact rfl) | ((with_reducible apply gdq_load); first | refine wq_load (h := ?_) | refine wq_loadAll (h := ?_) | refine wq_loadC (h := ?_) | refine wq_ldV (h := ?_) | refine wq_ldF (h := ?_)) | ((with_reducible first | apply q_lss | apply q_gtr | apply q_geq | apply q_eql | apply q_neq | apply q_extract); exact rfl; exact rfl; exact rfl) | ((with_reducible apply q_pick_f); exact rfl; exact fF_; exact rfl; exact rfl) | ((with_reducible apply q_idx); infer_instance; infer_instance; exact rfl; exact rfl; (first | exact rfl | omega); exact rfl; (first | assumption | omega | decide)) | ((with_reducible first | apply h_run); exact rfl; exact gG_))
              refine l_again (j + 1) (show j + 1 ≤ k by omega) (show k - (j + 1) < k - j by omega) ?_ ?_
              · (try dsimp only); rw [hstep]; exact fS_
              · exact hS_
          | false =>
            as_aux_lemma =>
              repeat' (first | ((with_reducible apply c_cond_t); exact rfl; exact decide_eq_true (by omega)) | ((with_reducible apply c_cond_f); exact rfl; exact decide_eq_false (by omega)) | ((with_reducible apply o_ldP); infer_instance; exact rfl; (intro w' hw'; exact SV.cell (hR _ _ _ _ (by exact rL_) hw').1 hdj (gj 2 _ rfl)); exact rfl) | ((with_reducible apply q_ldP); infer_instance; exact rfl; exact rfl; exact sJ_; (intro w' hw'; first | exact SV.cell1 (hB _ _ _ _ (by exact rL_) hw').ps hpj (gpj 0 _ rfl) | exact SV.cell (hB _ _ _ _ (by exact rL_) hw').ps hpj (gpj 1 _ rfl)); exact rfl) | ((with_reducible apply o_maxE (v := mx)); exact rfl; exact rfl; exact hmx; exact rfl) | ((with_reducible first | apply o_move | apply o_assign | apply o_faddr0 | apply o_not_d); exact rfl; exact rfl) | ((with_reducible first | apply o_faddr); exact rfl; exact rfl) | ((with_reducible first | apply o_lss | apply o_leq | apply o_gtr | apply o_geq | apply o_eql | apply o_neq | apply o_extract | apply o_max2); exact rfl; exact rfl; exact rfl) | ((with_reducible first | apply o_add | apply o_sub); exact rfl; exact rfl; exact rfl; (constructor <;> omega)) | ((with_reducible apply o_pick_f); exact rfl; exact fF_; exact rfl; exact rfl) | ((with_reducible apply o_idx); infer_instance; infer_instance; exact rfl; exact rfl; (first | exact rfl | omega); exact rfl; (first | assumption | omega | decide)) | ((with_reducible apply g_skip); exact rfl; exact gG_; exact rfl) | ((with_reducible apply g_skip_undef); exact rfl; exact rfl) | ((with_reducible first | apply c_seq | apply c_block | apply c_region | apply c_nil | apply c_ret | apply c_exit | apply c_skip)) | ((with_reducible first | apply e_then | apply e_then_ret | apply e_then_exit | apply e_in | apply e_in_ret | apply e_in_same)) | ((with_reducible apply c_regionD0 (id := 21) []); kernel_rfl; kernel_rfl) | ((with_reducible apply q_nil); try simp only [ents, List.cons_append, List.nil_append]) | ((with_reducible first | apply q_move | apply q_assign | apply q_faddr0); exact rfl; exact rfl) | ((with_reducible first | apply q_faddr); exact rfl; exact rfl) | ((with_reducible apply gdq_load); first | refine wq_load (h := ?_) | refine wq_loadAll (h := ?_) | refine wq_loadC (h := ?_) | refine wq_ldV (h := ?_) | refine wq_ldF (h := ?_)) | ((with_reducible first | apply q_lss | apply q_gtr | apply q_geq | apply q_eql | apply q_neq | apply q_extract); exact rfl; exact rfl; exact rfl) | ((with_reducible apply q_pick_f); exact rfl; exact fF_; exact rfl; exact rfl) | ((with_reducible apply q_idx); infer_instance; infer_instance; exact rfl; exact rfl; (first | exact rfl | omega); exact rfl; (first | assumption | omega | decide)) | ((with_reducible first | apply h_run); exact rfl; exact gG_))
              refine l_again (j + 1) (show j + 1 ≤ k by omega) (show k - (j + 1) < k - j by omega) ?_ ?_
              · (try dsimp only); rw [hstep]; exact fS_
              · exact hS_
        · rw [if_neg (fun h => h.elim (fun h => by cases h) hma)] at hstep
          cases O with
          | true =>
            as_aux_lemma =>
              repeat' (first | ((with_reducible apply c_cond_f); exact rfl; exact decide_eq_false (by omega)) | ((with_reducible apply q_ldP); infer_instance; exact rfl; exact rfl; exact sJ_; (intro w' hw'; first | exact SV.cell1 (hB _ _ _ _ (by exact rL_) hw').ps hpj (gpj 0 _ rfl) | exact SV.cell (hB _ _ _ _ (by exact rL_) hw').ps hpj (gpj 1 _ rfl)); exact rfl) | ((with_reducible first | apply o_move | apply o_assign | apply o_faddr0 | apply o_not_d); exact rfl; exact rfl) | ((with_reducible first | apply o_lss | apply o_leq | apply o_gtr | apply o_geq | apply o_eql | apply o_neq | apply o_extract | apply o_max2); exact rfl; exact rfl; exact rfl) | ((with_reducible apply o_not); exact rfl; exact rfl) | ((with_reducible first | apply o_add | apply o_sub); exact rfl; exact rfl; exact rfl; (constructor <;> omega)) | ((with_reducible apply o_pick_t); exact rfl; exact tT_; exact rfl; exact rfl) | ((with_reducible first | apply g_run); exact rfl; exact gG_) | ((with_reducible apply g_skip); exact rfl; exact gG_; exact rfl) | ((with_reducible first | apply c_seq | apply c_block | apply c_region | apply c_nil | apply c_ret | apply c_exit | apply c_skip)) | ((with_reducible first | apply e_then | apply e_then_ret | apply e_then_exit | apply e_in | apply e_in_ret | apply e_in_same)) | ((with_reducible apply c_regionD0 (id := 21) []); kernel_rfl; kernel_rfl) | ((with_reducible apply q_nil); try simp only [ents, List.cons_append, List.nil_append]) | ((with_reducible first | apply q_move | apply q_assign | apply q_faddr0); exact rfl; exact rfl) | ((with_reducible first | apply q_faddr); exact rfl; exact rfl) | ((with_reducible apply gdq_load); first | refine wq_load (h := ?_) | refine wq_loadAll (h := ?_) | refine wq_loadC (h := ?_) | refine wq_ldV (h := ?_) | refine wq_ldF (h := ?_)) | ((with_reducible first | apply q_lss | apply q_gtr | apply q_geq | apply q_eql | apply q_neq | apply q_extract); exact rfl; exact rfl; exact rfl) | ((with_reducible apply q_pick_f); exact rfl; exact fF_; exact rfl; exact rfl) | ((with_reducible apply q_idx); infer_instance; infer_instance; exact rfl; exact rfl; (first | exact rfl | omega); exact rfl; (first | assumption | omega | decide)) | ((with_reducible first | apply h_run); exact rfl; exact gG_))
              refine l_again (j + 1) (show j + 1 ≤ k by omega) (show k - (j + 1) < k - j by omega) ?_ ?_
              · (try dsimp only); rw [hstep]; exact fS_
              · exact hS_
          | false =>
            as_aux_lemma =>
              repeat' (first | ((with_reducible apply c_cond_f); exact rfl; exact decide_eq_false (by omega)) | ((with_reducible apply q_ldP); infer_instance; exact rfl; exact rfl; exact sJ_; (intro w' hw'; first | exact SV.cell1 (hB _ _ _ _ (by exact rL_) hw').ps hpj (gpj 0 _ rfl) | exact SV.cell (hB _ _ _ _ (by exact rL_) hw').ps hpj (gpj 1 _ rfl)); exact rfl) | ((with_reducible first | apply o_move | apply o_assign | apply o_faddr0 | apply o_not_d); exact rfl; exact rfl) | ((with_reducible first | apply o_lss | apply o_leq | apply o_gtr | apply o_geq | apply o_eql | apply o_neq | apply o_extract | apply o_max2); exact rfl; exact rfl; exact rfl) | ((with_reducible first | apply o_add | apply o_sub); exact rfl; exact rfl; exact rfl; (constructor <;> omega)) | ((with_reducible apply o_pick_f); exact rfl; exact fF_; exact rfl; exact rfl) | ((with_reducible apply g_skip); exact rfl; exact gG_; exact rfl) | ((with_reducible apply g_skip_undef); exact rfl; exact rfl) | ((with_reducible first | apply c_seq | apply c_block | apply c_region | apply c_nil | apply c_ret | apply c_exit | apply c_skip)) | ((with_reducible first | apply e_then | apply e_then_ret | apply e_then_exit | apply e_in | apply e_in_ret | apply e_in_same)) | ((with_reducible apply c_regionD0 (id := 21) []); kernel_rfl; kernel_rfl) | ((with_reducible apply q_nil); try simp only [ents, List.cons_append, List.nil_append]) | ((with_reducible first | apply q_move | apply q_assign | apply q_faddr0); exact rfl; exact rfl) | ((with_reducible first | apply q_faddr); exact rfl; exact rfl) | ((with_reducible apply gdq_load); first | refine wq_load (h := ?_) | refine wq_loadAll (h := ?_) | refine wq_loadC (h := ?_) | refine wq_ldV (h := ?_) | refine wq_ldF (h := ?_)) | ((with_reducible first | apply q_lss | apply q_gtr | apply q_geq | apply q_eql | apply q_neq | apply q_extract); exact rfl; exact rfl; exact rfl) | ((with_reducible apply q_pick_f); exact rfl; exact fF_; exact rfl; exact rfl) | ((with_reducible apply q_idx); infer_instance; infer_instance; exact rfl; exact rfl; (first | exact rfl | omega); exact rfl; (first | assumption | omega | decide)) | ((with_reducible first | apply h_run); exact rfl; exact gG_))
              refine l_again (j + 1) (show j + 1 ≤ k by omega) (show k - (j + 1) < k - j by omega) ?_ ?_
              · (try dsimp only); rw [hstep]; exact fS_
              · exact hS_
    obtain rfl : k = j := by omega
    have hrdk := hrdb k
    have hT : Plt.takenF p.items ((Plt.playF p).take k) y.src = Plt.takenF p.items ((Plt.playF p).take k) y.src := rfl
    have hTl : (Plt.takenF p.items ((Plt.playF p).take k) y.src).length ≤ 1000000 := by have := hv.taken_len hy; omega
    have hshw := (Plt.right_shifts hmr).2
    have hshl := (Plt.right_shifts hmr).1
    obtain ⟨R, hRe⟩ : ∃ R, (Plt.rdF p y k).1 = R := ⟨_, rfl⟩
    obtain ⟨O, hOe⟩ : ∃ O, (Plt.rdF p y k).2 = O := ⟨_, rfl⟩
    rw [hRe] at hrdk hrdy2
    rw [hOe] at hrdy1
    rw [hRe, hOe]
    rcases hcs with hc | ⟨ready, hc⟩
    · have e1 : r.fin = -1 := by rw [hc.eq]; rfl
      have e2 : r.start = -1 := by rw [hc.eq]; rfl
      have e3 : r.items.length = 0 := by rw [hc.eq]; rfl
      have e4 : r.slices.length = 0 := by rw [hc.eq]; rfl
      cases O with
      | false =>
        as_aux_lemma =>
          repeat' (first | ((with_reducible apply c_cond_t); exact rfl; exact decide_eq_true (by omega)) | ((with_reducible apply c_cond_f); exact rfl; exact decide_eq_false (by omega)) | ((with_reducible first | apply o_move | apply o_assign | apply o_faddr0 | apply o_not_d); exact rfl; exact rfl) | ((with_reducible apply gdo_load); first | refine wo_load (h := ?_) | refine wo_loadAll (h := ?_) | refine wo_loadC (h := ?_) | refine wo_ldV (h := ?_) | refine wo_ldF (h := ?_)) | ((with_reducible first | apply o_lss | apply o_leq | apply o_gtr | apply o_geq | apply o_eql | apply o_neq | apply o_extract | apply o_max2); exact rfl; exact rfl; exact rfl) | ((with_reducible first | apply o_add | apply o_sub); exact rfl; exact rfl; exact rfl; (constructor <;> omega)) | ((with_reducible first | apply c_seq | apply c_block | apply c_region | apply c_nil | apply c_ret | apply c_exit | apply c_skip)) | ((with_reducible apply c_cond_f); exact rfl; exact fF_) | ((with_reducible first | apply e_then | apply e_then_ret | apply e_then_exit | apply e_in | apply e_in_ret | apply e_in_same)) | ((with_reducible apply c_regionD0 (id := 25) []); kernel_rfl; kernel_rfl) | ((with_reducible apply q_nil); try simp only [ents, List.cons_append, List.nil_append]) | ((with_reducible first | apply q_move | apply q_assign | apply q_faddr0); exact rfl; exact rfl) | ((with_reducible apply gdq_load); first | refine wq_load (h := ?_) | refine wq_loadAll (h := ?_) | refine wq_loadC (h := ?_) | refine wq_ldV (h := ?_) | refine wq_ldF (h := ?_)) | ((with_reducible first | apply q_lss | apply q_gtr | apply q_geq | apply q_eql | apply q_neq | apply q_extract); exact rfl; exact rfl; exact rfl) | ((with_reducible apply q_pick_f); exact rfl; exact fF_; exact rfl; exact rfl) | ((with_reducible apply gdq_call_len); first | refine wq_len (h := ?_)) | ((with_reducible first | apply h_run); exact rfl; exact gG_) | ((with_reducible apply h_skip); exact rfl; exact gG_; exact rfl))
          refine l_again (k + 1) (show k + 1 ≤ (Plt.playF p).length by omega) (show (Plt.playF p).length - (k + 1) < (Plt.playF p).length - k by omega) ?_ ?_
          · exact fS_
          · exact hS_
      | true =>
        have hnf : decide (Plt.haveF R m.shifts * m.rate ≥ ((Plt.takenF p.items ((Plt.playF p).take k) y.src).length : Int)) = false := by
          obtain ⟨⟨q1, q2⟩, hq⟩ := hrdy1.1 rfl
          have hqe := hrdy2 _ _ hq
          have hw := hc.why q1 q2 (by rw [hmid]; exact hq)
          have hit := (Plt.takeSrc_spec hq).1
          rw [List.nil_append, hv.taken' hy] at hit
          rw [← hit, hqe]
          exact decide_eq_false (by omega)
        as_aux_lemma =>
          repeat' (first | ((with_reducible apply c_cond_t); exact rfl; exact decide_eq_true (by omega)) | ((with_reducible apply c_cond_f); exact rfl; exact decide_eq_false (by omega)) | ((first | ((with_reducible apply o_call_pure (f := 19)); exact rfl) | ((with_reducible apply q_call_pure (f := 19)); exact rfl; kernel_rfl; exact rfl; exact sJ_)); exact eV_; exact (fun w hw => waiting_calls hy (by omega) (hv.src_nn hy) hT hTl w (hB _ _ _ _ (by exact rL_) hw) (hR _ _ _ _ (by exact rL_) hw))) | ((first | ((with_reducible apply o_call_pure (f := 18)); exact rfl) | ((with_reducible apply q_call_pure (f := 18)); exact rfl; kernel_rfl; exact rfl; exact sJ_)); exact eV_; exact (fun w hw => fits_is hshw hshl hrdk hrate hnf w ((hB _ _ _ _ (by exact rL_) hw).machs jm _ _ hdm hm).shifts)) | ((with_reducible first | apply o_move | apply o_assign | apply o_faddr0 | apply o_not_d); exact rfl; exact rfl) | ((with_reducible apply gdo_load); first | refine wo_load (h := ?_) | refine wo_loadAll (h := ?_) | refine wo_loadC (h := ?_) | refine wo_ldV (h := ?_) | refine wo_ldF (h := ?_)) | ((with_reducible first | apply o_lss | apply o_leq | apply o_gtr | apply o_geq | apply o_eql | apply o_neq | apply o_extract | apply o_max2); exact rfl; exact rfl; exact rfl) | ((with_reducible first | apply o_add | apply o_sub); exact rfl; exact rfl; exact rfl; (constructor <;> omega)) | ((with_reducible first | apply c_seq | apply c_block | apply c_region | apply c_nil | apply c_ret | apply c_exit | apply c_skip)) | ((with_reducible apply c_cond_f); exact rfl; exact fF_) | ((with_reducible first | apply e_then | apply e_then_ret | apply e_then_exit | apply e_in | apply e_in_ret | apply e_in_same)) | ((with_reducible apply c_regionD0 (id := 25) []); kernel_rfl; kernel_rfl) | ((with_reducible apply q_nil); try simp only [ents, List.cons_append, List.nil_append]) | ((with_reducible first | apply q_move | apply q_assign | apply q_faddr0); exact rfl; exact rfl) | ((with_reducible apply gdq_load); first | refine wq_load (h := ?_) | refine wq_loadAll (h := ?_) | refine wq_loadC (h := ?_) | refine wq_ldV (h := ?_) | refine wq_ldF (h := ?_)) | ((with_reducible first | apply q_lss | apply q_gtr | apply q_geq | apply q_eql | apply q_neq | apply q_extract); exact rfl; exact rfl; exact rfl) | ((with_reducible apply q_pick_t); exact rfl; exact tT_; exact rfl; exact rfl) | ((with_reducible apply q_pick_f); exact rfl; exact fF_; exact rfl; exact rfl) | ((with_reducible apply gdq_call_len); first | refine wq_len (h := ?_)) | ((with_reducible first | apply h_run); exact rfl; exact gG_))
          refine l_again (k + 1) (show k + 1 ≤ (Plt.playF p).length by omega) (show (Plt.playF p).length - (k + 1) < (Plt.playF p).length - k by omega) ?_ ?_
          · exact fS_
          · exact hS_
    · have htk := hc.take
      rw [hmid] at htk
      obtain rfl : O = true := hrdy1.2 ⟨_, htk⟩
      obtain rfl : R = ready := hrdy2 _ _ htk
      obtain ⟨hch, hins, hspan, hfe, hst, hge⟩ := hc.chain hmr
      have hfin := (hc.fin_bd hv hy hmr).2
      have hps := hc.pass
      have hlen := (hc.mem hv hy hmsl).2.2
      have hmra := hmr.2.1.1
      have hyf : decide (Plt.haveF R m.shifts * m.rate ≥ (r.items.length : Int)) = true := by
        refine decide_eq_true ?_
        have hen := hc.enough
        have := Plt.need_lt (k := Plt.haveF R m.shifts) (n := (r.items.length : Int)) hmra
        unfold Plt.needOf at hen
        omega
      obtain ⟨need, hneed⟩ : ∃ need, ((r.items.length : Int) + m.rate - 1) / m.rate = need := ⟨_, rfl⟩
      have hneed2 : Plt.needOf r.items.length m.rate = need := hneed
      have hneb : 0 ≤ need := by rw [← hneed2]; exact Plt.need_nonneg hmra
      have hneb2 : need ≤ 1000000 := by
        rw [← hneed]
        have := Int.ediv_le_self (a := (r.items.length : Int) + m.rate - 1) m.rate (by omega)
        omega
      rw [hneed2] at hspan
      repeat' (first | ((with_reducible apply c_cond_f); exact rfl; exact decide_eq_false (by omega)) | ((with_reducible apply o_pick_f); exact rfl; exact decide_eq_false (by omega); exact rfl; exact rfl) | ((with_reducible apply g_run); exact rfl; exact decide_eq_false (by omega)) | ((first | ((with_reducible apply o_call_pure (f := 18)); exact rfl) | ((with_reducible apply q_call_pure (f := 18)); exact rfl; kernel_rfl; exact rfl; exact sJ_)); exact eV_; exact (fun w hw => fits_is hshw hshl hrdk hrate hyf w ((hB _ _ _ _ (by exact rL_) hw).machs jm _ _ hdm hm).shifts)) | ((with_reducible apply o_quoE' (v := need)); exact rfl; exact rfl; exact hneed; omega; exact rfl) | ((with_reducible first | apply o_move | apply o_assign | apply o_faddr0 | apply o_not_d); exact rfl; exact rfl) | ((with_reducible apply gdo_load); first | refine wo_load (h := ?_) | refine wo_loadAll (h := ?_) | refine wo_loadC (h := ?_) | refine wo_ldV (h := ?_) | refine wo_ldF (h := ?_)) | ((with_reducible first | apply o_lss | apply o_leq | apply o_gtr | apply o_geq | apply o_eql | apply o_neq | apply o_extract | apply o_max2); exact rfl; exact rfl; exact rfl) | ((with_reducible apply o_not); exact rfl; exact rfl) | ((with_reducible first | apply o_add | apply o_sub); exact rfl; exact rfl; exact rfl; (constructor <;> omega)) | ((with_reducible apply o_pick_f); exact rfl; exact fF_; exact rfl; exact rfl) | ((with_reducible apply o_len); infer_instance; exact rfl; exact rfl) | ((with_reducible first | apply g_run); exact rfl; exact gG_) | ((with_reducible first | apply c_seq | apply c_block | apply c_region | apply c_nil | apply c_ret | apply c_exit | apply c_skip)) | ((with_reducible apply c_cond_f); exact rfl; exact fF_) | ((with_reducible first | apply e_then | apply e_then_ret | apply e_then_exit | apply e_in | apply e_in_ret | apply e_in_same)))
      apply c_loop (σ := Nat) (Fs := fun i => [(186, .int .i64 i), (185, .int .i64 r.slices.length), (184, .slice x2 r.slices.length k2), (17, .int .i64 (Plt.endF R (r.slices.take i))), (16, .int .i64 (need - Plt.spanF (r.slices.take i))), (11, .bool true), (10, .int .i64 R), (9, ptr b9), (8, ptr b8), (7, ptr b7), (6, .int .i64 k), (42, .int .i64 k), (41, .int .i64 (Plt.playF p).length), (40, .slice (some ⟨br, offr, none⟩) (Plt.playF p).length cr), (4, .slice (some ⟨br, offr, none⟩) (Plt.playF p).length cr), (3, ptr b3)])
        (Ls := fun i => ⟨b9, Ce [.int .i64 m.id, .int .i64 m.sweeps, .int .i64 m.rate, .slice m1 m.caps.length l4, .slice m2 m.shifts.length l5] 61, true⟩ :: ⟨b8, Ce [.int .i64 y.id, .int .i64 y.mach, .int .i64 y.rel, .slice p1 y.src.length l1, .slice p2 y.table.length l2, .slice p3 y.unread.length l3] 58, true⟩ :: ⟨b7, Ce [.int .i64 r.pass, .int .i64 r.start, .int .i64 r.fin, .slice x1 r.items.length k1, .slice x2 r.slices.length k2, .slice x3 n3 k3, .slice x4 n4 k4, .slice x5 r.res.over.length k5, .slice x6 r.res.rej.length k6, .slice x7 n7 k7] 50, true⟩ :: (NR ++ (⟨b3, Ce [.slice (some ⟨bM, oM, none⟩) p.ms.length cm, .slice ai p.items.length ci, .slice (some ⟨bP, oP, none⟩) p.passes.length cp] 29, true⟩ :: (NB ++ [])))) (I := fun i => i ≤ r.slices.length) (μ := fun i => r.slices.length - i) (s0 := 0)
      · exact Nat.zero_le _
      · (try dsimp only); rw [List.take_zero, Plt.spanF, Plt.endF_nil, Int.sub_zero]; exact fS_
      · exact hS_
      intro i hi
      have hi : i ≤ r.slices.length := hi
      by_cases hlt4 : i < r.slices.length
      · obtain ⟨⟨sf, su⟩, hs⟩ : ∃ s, r.slices[i]? = some s := ⟨_, List.getElem?_eq_getElem hlt4⟩
        have hs3 := slc3_get (id := r.pass) hs
        have hca := Plt.chain_at hch hs
        have hin := Plt.insideF_yes (hins _ (List.mem_of_getElem? hs))
        have hsbd := hsb _ (List.mem_of_getElem? hs)
        have hsp1 := Plt.span_snoc (r.slices.take i) (sf, su)
        rw [← take_snoc hs] at hsp1
        have hen1 := Plt.endF_snoc R (r.slices.take i) (sf, su)
        rw [← take_snoc hs] at hen1
        have hspb := Plt.span_bd (l := r.slices.take i) (fun s h => hsb s (List.mem_of_mem_take h))
        have hspn := Plt.span_nonneg (l := r.slices.take i) (fun s h => (hsb s (List.mem_of_mem_take h)).2.1)
        have hebd := Plt.endF_bd (e := R) (M := 1051898399) (by omega) (l := r.slices.take i) (fun s h => by have := hsb s (List.mem_of_mem_take h); omega)
        have htl : (r.slices.take i).length ≤ 200 := by rw [List.length_take]; omega
        dsimp only at hca hin hsbd hsp1 hen1
        generalize Plt.spanF (r.slices.take i) = S at hsp1 hspb hspn ⊢
        generalize Plt.endF R (r.slices.take i) = E at hca hebd ⊢
        refine st_know (fun w' hw' => SV.ptr ((hR _ _ _ _ (by exact rL_) hw').2.2 k _ _ hd hr).slices hs3) ?_
        rintro ⟨bz, oz, rfl⟩
        repeat' (first | ((with_reducible apply c_cond_t); exact rfl; exact decide_eq_true (by omega)) | ((with_reducible apply o_ldPV (l := [.int .i64 r.pass, .int .i64 sf, .int .i64 su])); infer_instance; infer_instance; exact rfl; (intro w' hw' j' v' hj'; exact SV.cell ((hR _ _ _ _ (by exact rL_) hw').2.2 k _ _ hd hr).slices hs3 hj'); exact rfl; exact rfl) | ((with_reducible first | apply o_move | apply o_assign | apply o_faddr0 | apply o_not_d); exact rfl; exact rfl) | ((with_reducible apply gdo_load); first | refine wo_load (h := ?_) | refine wo_loadAll (h := ?_) | refine wo_loadC (h := ?_) | refine wo_ldV (h := ?_) | refine wo_ldF (h := ?_)) | ((with_reducible first | apply o_lss | apply o_leq | apply o_gtr | apply o_geq | apply o_eql | apply o_neq | apply o_extract | apply o_max2); exact rfl; exact rfl; exact rfl) | ((with_reducible apply o_alloc); exact rfl; intro _) | ((with_reducible apply gdo_store); first | refine wo_store1 (h := ?_) | refine wo_storeA (h := ?_)) | ((with_reducible apply o_len); infer_instance; exact rfl; exact rfl) | ((with_reducible apply o_idx); infer_instance; infer_instance; exact rfl; exact rfl; (first | exact rfl | omega); exact rfl; (first | assumption | omega | decide)) | ((with_reducible first | apply c_seq | apply c_block | apply c_region | apply c_nil | apply c_ret | apply c_exit | apply c_skip)) | ((with_reducible first | apply e_then | apply e_then_ret | apply e_then_exit | apply e_in | apply e_in_ret | apply e_in_same)))
        rename_i b19
        apply c_loop (σ := Nat) (Fs := fun n => [(193, .int .i64 n), (192, .int .i64 m.shifts.length), (191, .slice m2 m.shifts.length l5), (20, .bool (Plt.insideF sf su (m.shifts.take n))), (19, ptr b19), (186, .int .i64 i), (185, .int .i64 r.slices.length), (184, .slice (some ⟨bz, oz, none⟩) r.slices.length k2), (17, .int .i64 E), (16, .int .i64 (need - S)), (11, .bool true), (10, .int .i64 R), (9, ptr b9), (8, ptr b8), (7, ptr b7), (6, .int .i64 k), (42, .int .i64 k), (41, .int .i64 (Plt.playF p).length), (40, .slice (some ⟨br, offr, none⟩) (Plt.playF p).length cr), (4, .slice (some ⟨br, offr, none⟩) (Plt.playF p).length cr), (3, ptr b3)])
          (Ls := fun n => ⟨b19, Ce [.int .i64 r.pass, .int .i64 sf, .int .i64 su] 68, true⟩ :: ⟨b9, Ce [.int .i64 m.id, .int .i64 m.sweeps, .int .i64 m.rate, .slice m1 m.caps.length l4, .slice m2 m.shifts.length l5] 61, true⟩ :: ⟨b8, Ce [.int .i64 y.id, .int .i64 y.mach, .int .i64 y.rel, .slice p1 y.src.length l1, .slice p2 y.table.length l2, .slice p3 y.unread.length l3] 58, true⟩ :: ⟨b7, Ce [.int .i64 r.pass, .int .i64 r.start, .int .i64 r.fin, .slice x1 r.items.length k1, .slice (some ⟨bz, oz, none⟩) r.slices.length k2, .slice x3 n3 k3, .slice x4 n4 k4, .slice x5 r.res.over.length k5, .slice x6 r.res.rej.length k6, .slice x7 n7 k7] 50, true⟩ :: (NR ++ (⟨b3, Ce [.slice (some ⟨bM, oM, none⟩) p.ms.length cm, .slice ai p.items.length ci, .slice (some ⟨bP, oP, none⟩) p.passes.length cp] 29, true⟩ :: (NB ++ [])))) (I := fun n => n ≤ m.shifts.length) (μ := fun n => m.shifts.length - n) (s0 := 0)
        · exact Nat.zero_le _
        · exact fS_
        · exact hS_
        intro n hn
        have hn : n ≤ m.shifts.length := hn
        by_cases hlt5 : n < m.shifts.length
        · obtain ⟨⟨hf, ht⟩, hsh⟩ : ∃ s, m.shifts[n]? = some s := ⟨_, List.getElem?_eq_getElem hlt5⟩
          have hif := Plt.insideF_snoc (sf := sf) (su := su) hsh
          dsimp only at hif
          refine st_know (fun w' hw' => SV.ptr ((hB _ _ _ _ (by exact rL_) hw').machs jm _ _ hdm hm).shifts hsh) ?_
          rintro ⟨bh, oh, rfl⟩
          cases hb : Plt.insideF sf su (m.shifts.take n) with
          | true =>
            rw [hb, Bool.true_or] at hif
            as_aux_lemma =>
              repeat' (first | ((with_reducible apply c_cond_t); exact rfl; exact decide_eq_true (by omega)) | ((with_reducible apply o_ldPV (l := [.int .i64 hf, .int .i64 ht])); infer_instance; infer_instance; exact rfl; (intro w' hw' j' v' hj'; exact SV.cell ((hB _ _ _ _ (by exact rL_) hw').machs jm _ _ hdm hm).shifts hsh hj'); exact rfl; exact rfl) | ((with_reducible first | apply o_move | apply o_assign | apply o_faddr0 | apply o_not_d); exact rfl; exact rfl) | ((with_reducible first | apply o_lss | apply o_leq | apply o_gtr | apply o_geq | apply o_eql | apply o_neq | apply o_extract | apply o_max2); exact rfl; exact rfl; exact rfl) | ((with_reducible first | apply o_add | apply o_sub); exact rfl; exact rfl; exact rfl; (constructor <;> omega)) | ((with_reducible apply o_pick_t); exact rfl; exact tT_; exact rfl; exact rfl) | ((with_reducible apply o_alloc); exact rfl; intro _) | ((with_reducible apply gdo_store); first | refine wo_store1 (h := ?_) | refine wo_storeA (h := ?_)) | ((with_reducible apply o_idx); infer_instance; infer_instance; exact rfl; exact rfl; (first | exact rfl | omega); exact rfl; (first | assumption | omega | decide)) | ((with_reducible apply g_skip); exact rfl; exact gG_; exact rfl) | ((with_reducible apply g_skip_undef); exact rfl; exact rfl) | ((with_reducible first | apply c_seq | apply c_block | apply c_region | apply c_nil | apply c_ret | apply c_exit | apply c_skip)) | ((with_reducible first | apply e_then | apply e_then_ret | apply e_then_exit | apply e_in | apply e_in_ret | apply e_in_same)))
              refine l_again (n + 1) (show n + 1 ≤ m.shifts.length by omega) (show m.shifts.length - (n + 1) < m.shifts.length - n by omega) ?_ ?_
              · (try dsimp only); rw [hif]; exact fS_
              · exact hS_
          | false =>
            rw [hb, Bool.false_or] at hif
            by_cases hcc : hf ≤ sf
            · rw [show decide (hf ≤ sf ∧ su ≤ ht) = decide (su ≤ ht) from decide_eq_decide.2 ⟨fun h => h.2, fun h => ⟨hcc, h⟩⟩] at hif
              as_aux_lemma =>
                repeat' (first | ((with_reducible apply c_cond_t); exact rfl; exact decide_eq_true (by omega)) | ((with_reducible apply o_pick_t); exact rfl; exact decide_eq_true (by omega); exact rfl; exact rfl) | ((with_reducible apply g_run); exact rfl; exact decide_eq_true (by omega)) | ((with_reducible apply o_ldPV (l := [.int .i64 hf, .int .i64 ht])); infer_instance; infer_instance; exact rfl; (intro w' hw' j' v' hj'; exact SV.cell ((hB _ _ _ _ (by exact rL_) hw').machs jm _ _ hdm hm).shifts hsh hj'); exact rfl; exact rfl) | ((with_reducible first | apply o_move | apply o_assign | apply o_faddr0 | apply o_not_d); exact rfl; exact rfl) | ((with_reducible apply gdo_load); first | refine wo_load (h := ?_) | refine wo_loadAll (h := ?_) | refine wo_loadC (h := ?_) | refine wo_ldV (h := ?_) | refine wo_ldF (h := ?_)) | ((with_reducible first | apply o_lss | apply o_leq | apply o_gtr | apply o_geq | apply o_eql | apply o_neq | apply o_extract | apply o_max2); exact rfl; exact rfl; exact rfl) | ((with_reducible first | apply o_add | apply o_sub); exact rfl; exact rfl; exact rfl; (constructor <;> omega)) | ((with_reducible apply o_pick_f); exact rfl; exact fF_; exact rfl; exact rfl) | ((with_reducible apply o_alloc); exact rfl; intro _) | ((with_reducible apply gdo_store); first | refine wo_store1 (h := ?_) | refine wo_storeA (h := ?_)) | ((with_reducible apply o_idx); infer_instance; infer_instance; exact rfl; exact rfl; (first | exact rfl | omega); exact rfl; (first | assumption | omega | decide)) | ((with_reducible first | apply g_run); exact rfl; exact gG_) | ((with_reducible first | apply c_seq | apply c_block | apply c_region | apply c_nil | apply c_ret | apply c_exit | apply c_skip)) | ((with_reducible first | apply e_then | apply e_then_ret | apply e_then_exit | apply e_in | apply e_in_ret | apply e_in_same)))
                refine l_again (n + 1) (show n + 1 ≤ m.shifts.length by omega) (show m.shifts.length - (n + 1) < m.shifts.length - n by omega) ?_ ?_
                · (try dsimp only); rw [hif]; exact fS_
                · exact hS_
            · rw [show decide (hf ≤ sf ∧ su ≤ ht) = false from decide_eq_false fun h => hcc h.1] at hif
              as_aux_lemma =>
                repeat' (first | ((with_reducible apply c_cond_t); exact rfl; exact decide_eq_true (by omega)) | ((with_reducible apply o_pick_f); exact rfl; exact decide_eq_false (by omega); exact rfl; exact rfl) | ((with_reducible apply g_skip); exact rfl; exact decide_eq_false (by omega); exact rfl) | ((with_reducible apply o_ldPV (l := [.int .i64 hf, .int .i64 ht])); infer_instance; infer_instance; exact rfl; (intro w' hw' j' v' hj'; exact SV.cell ((hB _ _ _ _ (by exact rL_) hw').machs jm _ _ hdm hm).shifts hsh hj'); exact rfl; exact rfl) | ((with_reducible first | apply o_move | apply o_assign | apply o_faddr0 | apply o_not_d); exact rfl; exact rfl) | ((with_reducible apply gdo_load); first | refine wo_load (h := ?_) | refine wo_loadAll (h := ?_) | refine wo_loadC (h := ?_) | refine wo_ldV (h := ?_) | refine wo_ldF (h := ?_)) | ((with_reducible first | apply o_lss | apply o_leq | apply o_gtr | apply o_geq | apply o_eql | apply o_neq | apply o_extract | apply o_max2); exact rfl; exact rfl; exact rfl) | ((with_reducible first | apply o_add | apply o_sub); exact rfl; exact rfl; exact rfl; (constructor <;> omega)) | ((with_reducible apply o_pick_f); exact rfl; exact fF_; exact rfl; exact rfl) | ((with_reducible apply o_alloc); exact rfl; intro _) | ((with_reducible apply gdo_store); first | refine wo_store1 (h := ?_) | refine wo_storeA (h := ?_)) | ((with_reducible apply o_idx); infer_instance; infer_instance; exact rfl; exact rfl; (first | exact rfl | omega); exact rfl; (first | assumption | omega | decide)) | ((with_reducible first | apply g_run); exact rfl; exact gG_) | ((with_reducible first | apply c_seq | apply c_block | apply c_region | apply c_nil | apply c_ret | apply c_exit | apply c_skip)) | ((with_reducible first | apply e_then | apply e_then_ret | apply e_then_exit | apply e_in | apply e_in_ret | apply e_in_same)))
                refine l_again (n + 1) (show n + 1 ≤ m.shifts.length by omega) (show m.shifts.length - (n + 1) < m.shifts.length - n by omega) ?_ ?_
                · (try dsimp only); rw [hif]; exact fS_
                · exact hS_
        obtain rfl : n = m.shifts.length := by omega
        rw [List.take_length, hin]
        as_aux_lemma =>
          repeat' (first | ((with_reducible apply c_cond_f); exact rfl; exact decide_eq_false (by omega)) | ((with_reducible apply o_pick_f); exact rfl; exact decide_eq_false (by omega); exact rfl; exact rfl) | ((with_reducible apply g_run); exact rfl; exact decide_eq_false (by omega)) | ((with_reducible first | apply o_move | apply o_assign | apply o_faddr0 | apply o_not_d); exact rfl; exact rfl) | ((with_reducible apply gdo_load); first | refine wo_load (h := ?_) | refine wo_loadAll (h := ?_) | refine wo_loadC (h := ?_) | refine wo_ldV (h := ?_) | refine wo_ldF (h := ?_)) | ((with_reducible first | apply o_lss | apply o_leq | apply o_gtr | apply o_geq | apply o_eql | apply o_neq | apply o_extract | apply o_max2); exact rfl; exact rfl; exact rfl) | ((with_reducible apply o_not); exact rfl; exact rfl) | ((with_reducible first | apply o_add | apply o_sub); exact rfl; exact rfl; exact rfl; (constructor <;> omega)) | ((with_reducible apply o_pick_f); exact rfl; exact fF_; exact rfl; exact rfl) | ((with_reducible first | apply g_run); exact rfl; exact gG_) | ((with_reducible first | apply c_seq | apply c_block | apply c_region | apply c_nil | apply c_ret | apply c_exit | apply c_skip)) | ((with_reducible first | apply e_then | apply e_then_ret | apply e_then_exit | apply e_in | apply e_in_ret | apply e_in_same)))
          refine l_again (i + 1) (show i + 1 ≤ r.slices.length by omega) (show r.slices.length - (i + 1) < r.slices.length - i by omega) ?_ ?_
          · (try dsimp only); rw [hen1, hsp1, ← Int.sub_sub]; exact fS_
          · exact hS_
      obtain rfl : i = r.slices.length := by omega
      rw [List.take_length, ← hfe, hspan, Int.sub_self]
      rcases hst with ⟨hs0, hst⟩ | ⟨⟨sf, su⟩, hs0, hst⟩
      · have hsl0 : r.slices.length = 0 := by rw [hs0]; rfl
        as_aux_lemma =>
          repeat' (first | ((with_reducible apply c_cond_f); exact rfl; exact decide_eq_false (by omega)) | ((with_reducible first | apply o_move | apply o_assign | apply o_faddr0 | apply o_not_d); exact rfl; exact rfl) | ((with_reducible first | apply o_lss | apply o_leq | apply o_gtr | apply o_geq | apply o_eql | apply o_neq | apply o_extract | apply o_max2); exact rfl; exact rfl; exact rfl) | ((with_reducible first | apply o_add | apply o_sub); exact rfl; exact rfl; exact rfl; (constructor <;> omega)) | ((with_reducible first | apply c_seq | apply c_block | apply c_region | apply c_nil | apply c_ret | apply c_exit | apply c_skip)) | ((with_reducible first | apply e_then | apply e_then_ret | apply e_then_exit | apply e_in | apply e_in_ret | apply e_in_same)) | ((with_reducible apply c_regionD0 (id := 44) []); kernel_rfl; kernel_rfl) | ((with_reducible apply q_nil); try simp only [ents, List.cons_append, List.nil_append]) | ((with_reducible first | apply q_move | apply q_assign | apply q_faddr0); exact rfl; exact rfl) | ((with_reducible apply gdq_load); first | refine wq_load (h := ?_) | refine wq_loadAll (h := ?_) | refine wq_loadC (h := ?_) | refine wq_ldV (h := ?_) | refine wq_ldF (h := ?_)) | ((with_reducible first | apply q_lss | apply q_gtr | apply q_geq | apply q_eql | apply q_neq | apply q_extract); exact rfl; exact rfl; exact rfl) | ((with_reducible apply q_pick_t); exact rfl; exact tT_; exact rfl; exact rfl) | ((with_reducible apply q_pick_f); exact rfl; exact fF_; exact rfl; exact rfl) | ((with_reducible apply gdq_call_len); first | refine wq_len (h := ?_)) | ((with_reducible first | apply h_run); exact rfl; exact gG_) | ((with_reducible apply h_skip); exact rfl; exact gG_; exact rfl))
          refine l_again (k + 1) (show k + 1 ≤ (Plt.playF p).length by omega) (show (Plt.playF p).length - (k + 1) < (Plt.playF p).length - k by omega) ?_ ?_
          · exact fS_
          · exact hS_
      · have hsl0 : 0 < r.slices.length := (List.getElem?_eq_some_iff.1 hs0).1
        have hs3 := slc3_get (id := r.pass) hs0
        dsimp only at hst
        refine st_know (fun w' hw' => SV.ptr ((hR _ _ _ _ (by exact rL_) hw').2.2 k _ _ hd hr).slices hs3) ?_
        rintro ⟨bz, oz, rfl⟩
        as_aux_lemma =>
          repeat' (first | ((with_reducible apply c_cond_f); exact rfl; exact decide_eq_false (by omega)) | ((with_reducible apply q_idx (m := 0)); infer_instance; infer_instance; exact rfl; exact rfl; exact rfl; exact rfl; omega) | ((with_reducible apply q_ldP (v := .int .i64 sf)); infer_instance; exact rfl; exact rfl; exact sJ_; (intro w' hw'; exact SV.cell ((hR _ _ _ _ (by exact rL_) hw').2.2 k _ _ hd hr).slices hs3 (j := 1) rfl); exact rfl) | ((with_reducible first | apply o_move | apply o_assign | apply o_faddr0 | apply o_not_d); exact rfl; exact rfl) | ((with_reducible first | apply o_lss | apply o_leq | apply o_gtr | apply o_geq | apply o_eql | apply o_neq | apply o_extract | apply o_max2); exact rfl; exact rfl; exact rfl) | ((with_reducible first | apply o_add | apply o_sub); exact rfl; exact rfl; exact rfl; (constructor <;> omega)) | ((with_reducible first | apply c_seq | apply c_block | apply c_region | apply c_nil | apply c_ret | apply c_exit | apply c_skip)) | ((with_reducible apply c_cond_f); exact rfl; exact fF_) | ((with_reducible first | apply e_then | apply e_then_ret | apply e_then_exit | apply e_in | apply e_in_ret | apply e_in_same)) | ((with_reducible apply c_regionD0 (id := 44) []); kernel_rfl; kernel_rfl) | ((with_reducible apply q_nil); try simp only [ents, List.cons_append, List.nil_append]) | ((with_reducible first | apply q_move | apply q_assign | apply q_faddr0); exact rfl; exact rfl) | ((with_reducible first | apply q_faddr); exact rfl; exact rfl) | ((with_reducible apply gdq_load); first | refine wq_load (h := ?_) | refine wq_loadAll (h := ?_) | refine wq_loadC (h := ?_) | refine wq_ldV (h := ?_) | refine wq_ldF (h := ?_)) | ((with_reducible first | apply q_lss | apply q_gtr | apply q_geq | apply q_eql | apply q_neq | apply q_extract); exact rfl; exact rfl; exact rfl) | ((with_reducible apply q_pick_t); exact rfl; exact tT_; exact rfl; exact rfl) | ((with_reducible apply q_pick_f); exact rfl; exact fF_; exact rfl; exact rfl) | ((with_reducible apply gdq_call_len); first | refine wq_len (h := ?_)) | ((with_reducible first | apply h_run); exact rfl; exact gG_) | ((with_reducible apply h_skip); exact rfl; exact gG_; exact rfl))
          refine l_again (k + 1) (show k + 1 ≤ (Plt.playF p).length by omega) (show (Plt.playF p).length - (k + 1) < (Plt.playF p).length - k by omega) ?_ ?_
          · exact fS_
          · exact hS_
  obtain rfl : k = (Plt.playF p).length := by omega
  repeat' (first | ((with_reducible apply c_cond_f); exact rfl; exact decide_eq_false (by omega)) | ((first | ((with_reducible apply o_call_pure (f := 16)); exact rfl) | ((with_reducible apply q_call_pure (f := 16)); exact rfl; kernel_rfl; exact rfl; exact sJ_)); exact eV_; exact (fun w _ => awake_calls w)) | ((with_reducible first | apply o_move | apply o_assign | apply o_faddr0 | apply o_not_d); exact rfl; exact rfl) | ((with_reducible first | apply o_lss | apply o_leq | apply o_gtr | apply o_geq | apply o_eql | apply o_neq | apply o_extract | apply o_max2); exact rfl; exact rfl; exact rfl) | ((with_reducible first | apply c_seq | apply c_block | apply c_region | apply c_nil | apply c_ret | apply c_exit | apply c_skip)) | ((with_reducible first | apply e_then | apply e_then_ret | apply e_then_exit | apply e_in | apply e_in_ret | apply e_in_same)))
  apply r_body; apply res1 Try.results4; exact rV_; intro w' hw
  exact ⟨rfl, hw.below (show AO _ from by exact aO_)⟩
end Go.Proofs.Ytkhaemjoekfhiaa
namespace Go.Proofs.Ytkhaemjoekfhiaa
open Go Go.ChangeShapes Go.WideShapes Go.ChangeAt Go.RowKit Go.Sx
theorem own : ownKnob Try.prog.godebug = none := by kernel_rfl
theorem laidOut : laidOutB Try.prog = true := by kernel_rfl
theorem cellsB : Try.prog.cellsOf 5 = 1 := by kernel_rfl
section
variable {H : Type} {enc : TypeId × Value → H} {w : World}
set_option maxRecDepth 100000 in
theorem rd_byte {cs : List Value} (h : Rd enc Try.prog w 5 cs) : ∃ x : UInt8, cs = encB x ∧ True := by
  obtain ⟨n, rfl, hw⟩ := Rd.int Try.underlying5 h
  simp only [Lit.wf, Bool.and_eq_true, decide_eq_true_eq] at hw
  have h0 : 0 ≤ n := hw.1
  have h1 : n ≤ 255 := hw.2
  refine ⟨UInt8.ofNat n.toNat, ?_, trivial⟩
  unfold encB
  have : (UInt8.ofNat n.toNat).toNat = n.toNat := by
    rw [UInt8.toNat_ofNat']
    omega
  rw [this]
  congr 2
  omega
theorem cellsTSK : Try.prog.cellsOf 24 = 4 := by kernel_rfl
theorem cellsTBYTES : Try.prog.cellsOf 22 = 1 := by kernel_rfl
theorem list4 {α : Type} {l : List α} (h : l.length = 4) : ∃ a b c d, l = [a, b, c, d] := by
  match l, h with
  | [a, b, c, d], _ => exact ⟨a, b, c, d, rfl⟩
set_option maxRecDepth 100000 in
theorem arg_sketch {r : Reach} {b0 : Nat} {v : Value} {d : DataW H} {ps : List MemPlace} (hv : Value.okWide Try.prog w r b0 24 v) (h : DataW.Trod enc Try.prog w 0 (fun _ => true) true 24 v d ps) :
    ∃ v0 v1 v2 v3, ∃ x : Plt.Sk, v = .agg #[v0, v1, v2, v3] ∧ SV w 1 encB v0 x.ms ∧ SV w 1 encB v1 x.shs ∧ SV w 1 encB v2 x.its ∧ SV w 1 encB v3 x.ps := by
  obtain ⟨cs, rfl, _⟩ := okWide_struct Try.underlying24 hv
  obtain ⟨hl, hf⟩ := (Rd.of h).struct Try.underlying24
  rw [cellsTSK] at hl
  simp only [Value.cells] at hl hf
  obtain ⟨a, b, c, e, hab⟩ := list4 hl
  rw [hab] at hf
  obtain ⟨a', xa, ha, wa, _⟩ := rd_slice (good := fun _ => True) Try.underlying22 cellsB (by decide) encB_len (fun cs h => rd_byte h) (hf 0 _ rfl)
  obtain ⟨b', xb, hb, wb, _⟩ := rd_slice (good := fun _ => True) Try.underlying22 cellsB (by decide) encB_len (fun cs h => rd_byte h) (hf 1 _ rfl)
  obtain ⟨c', xc, hc, wc, _⟩ := rd_slice (good := fun _ => True) Try.underlying22 cellsB (by decide) encB_len (fun cs h => rd_byte h) (hf 2 _ rfl)
  obtain ⟨e', xe, he, we, _⟩ := rd_slice (good := fun _ => True) Try.underlying22 cellsB (by decide) encB_len (fun cs h => rd_byte h) (hf 3 _ rfl)
  obtain rfl : a = a' := by simpa [cellsTBYTES] using ha
  obtain rfl : b = b' := by simpa [cellsTBYTES] using hb
  obtain rfl : c = c' := by simpa [cellsTBYTES] using hc
  obtain rfl : e = e' := by simpa [cellsTBYTES] using he
  refine ⟨a, b, c, e, ⟨xa, xb, xc, xe⟩, ?_, wa, wb, wc, we⟩
  rw [show cs = #[a, b, c, e] from by rw [← Array.toArray_toList (xs := cs), hab]]
end
end Go.Proofs.Ytkhaemjoekfhiaa
namespace Go.Proofs.Ytkhaemjoekfhiaa
open Go Go.ChangeShapes Go.WideShapes Go.ChangeAt Go.RowKit Go.Sx
set_option maxRecDepth 100000 in
theorem plantTimes_lifted (os : Os) (started : os.Started) (H : Type) (enc : TypeId × Value → H) :
    ReturnsInHanded {} Try.checked os 4 .any (Rows.plantTimesSpec.pre6 enc Try.prog Try.f4 Rows.plantTimesRow.domain false) (Rows.plantTimesSpec.post enc Try.prog Try.f4 false true false false) := by
  refine returnsInHanded_of_change (C := Try.checked) own started (by kernel_rfl) Try.func4
    (ChangeSpec.witness6 (enc := enc) (C := Try.checked) false ⟨#[], #[.agg #[.slice none 0 0, .slice none 0 0, .slice none 0 0, .slice none 0 0]], []⟩ 8 (by kernel_rfl) (by kernel_rfl) (by kernel_rfl) (by kernel_rfl)) ?_
  intro W base args ds gs before hval0 hW hcnd _
  have hval : ∀ (j : Nat) t v, Try.f4.params[j]? = some t → args[j]? = some v → Value.okWide Try.prog W .any base t v := hval0
  have hW' := hW
  obtain ⟨p, q, hA0, hV, rfl, hfz, hnd⟩ := hW
  have hA : DataW.TrodAll enc Try.prog W 0 (fun _ => true) true Try.f4.params.toList args.toList ds p := hA0
  rw [Try.params4] at hA hval
  obtain ⟨v0, vs0, d0, ds0, p0, q0, hargs, rfl, rfl, h0, r0⟩ := trodAll_cons hA
  obtain ⟨rfl, rfl, rfl⟩ := trodAll_nil r0
  obtain rfl : args = #[v0] := by cases args; simp_all
  obtain ⟨rfl, rfl⟩ := trodVars_none hV
  have lt0 := Rd.lt h0
  have hv0 := hval 0 24 v0 rfl rfl
  clear hA0 hval0
  obtain ⟨c0, c1, c2, c3, x, rfl, s0, s1, s2, s3⟩ := arg_sketch hv0 h0
  refine (times_calls W s0 s1 s2 s3).mono fun e W' ⟨he, bel⟩ => ?_
  subst he
  exact ⟨_, rfl, _, _, _, [], _, [], hW', trodAll_mk1 (shut_bool Try.underlying4 _), (trodAll_cons_mk (Below.trod laidOut (by kernel_rfl) (of_decide_eq_true (by kernel_rfl)) h0 bel lt0) trodAll_mk0), rfl, bel.frame _, fun h => by cases h⟩
theorem plantTimes_proved : Rows.PlantTimesSaid :=
  OpenClaim.holds_of_wide 4 Try.f4 rfl rfl rfl rfl rfl rfl rfl ⟨rfl, rfl, rfl, rfl, rfl⟩ rfl rfl rfl rfl rfl (by kernel_rfl) Try.func4 (by kernel_rfl)
    (of_decide_eq_true (by kernel_rfl)) (by unfold Func.isWrapper; first | (rw [if_pos (by decide +kernel)]; kernel_rfl) | (rw [if_neg (by decide +kernel)]; exact ⟨rfl, rfl⟩))
    (fun os started H enc _ => plantTimes_lifted os started H enc)
end Go.Proofs.Ytkhaemjoekfhiaa
