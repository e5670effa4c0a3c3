/-
  PlantFeeds: whatever the plant in small numbers, the law returns true, and its argument reads as it did. Conditions: none.
-/
import Derived.Test.YtkhaemjoekfhiaaZPFeeds3
import Derived.Test.YtkhaemjoekfhiaaZPFeeds11
import Derived.Test.YtkhaemjoekfhiaaZPFeeds9
import Derived.Test.YtkhaemjoekfhiaaZPFeeds2
set_option linter.unusedSimpArgs false
set_option linter.unusedVariables false
set_option linter.unusedSectionVars false
namespace Go.Proofs.Ytkhaemjoekfhiaa
open Go Go.Sx Go.RowKit
attribute [local irreducible] WL WC WQ WR WB WF QB St Exit.then Exit.inBlock Exit.noGoto bodyPost roundPost beginK YR RG BM Calls B AgainD MeetD
/-! ## PlantFeeds -/
set_option maxHeartbeats 16000000 in
set_option maxRecDepth 100000 in
theorem lawFeeds_calls {v0 v1 v2 v3 : Value} {x : Plt.Sk} (w : World) (h0 : SV w 1 encB v0 x.ms) (h1 : SV w 1 encB v1 x.shs) (h2 : SV w 1 encB v2 x.its) (h3 : SV w 1 encB v3 x.ps) :
    Calls Try.prog 5 #[.agg #[v0, v1, v2, v3]] w fun e w' => e = .returned (.bool true) ∧ Below w.heap.size w w' := by
  obtain ⟨p, hp⟩ : ∃ p, Plt.built x = p := ⟨_, rfl⟩
  have hbt := fun (w' : World) (L : List Ent) (hw : Rep w w' L) (ho : AO L) => built_is hp w' (h0.keep hw ho) (h1.keep hw ho) (h2.keep hw ho) (h3.keep hw ho)
  have hnice := nice_built x
  rw [hp] at hnice
  have hv := Plt.valid_of hnice.valid
  have hcalm := Plt.calm_of hnice.valid
  have hil := hnice.items
  have hpl := hnice.passes
  have hrl0 := Plt.playF_len p
  have hstn := Plt.stopsF_nodup p.items
  clear h0 h1 h2 h3
  refine f_enter1 Try.func5 rfl Try.ntmps5 rfl (Rep.start w) ?_
  repeat' (first | ((with_reducible apply c_cond_f); exact rfl; exact decide_eq_false (by omega)) | ((with_reducible apply o_pick_f); exact rfl; exact decide_eq_false (by omega); exact rfl; exact rfl) | ((with_reducible apply g_run); exact rfl; exact decide_eq_false (by omega)) | ((first | ((with_reducible apply o_call_new (f := 10)); exact rfl) | ((with_reducible apply q_call_new (f := 10)); exact rfl; exact rfl; exact sJ_)); exact eV_; exact (fun w hw => hbt w _ hw (by exact aO_)); rintro v NB ⟨am, cm, ai, ci, ap, cp, ds, ys, rfl, hB, oB⟩ <;> (try simp only [List.cons_append, List.nil_append])) | ((first | ((with_reducible apply o_call_new (f := 11)); exact rfl) | ((with_reducible apply q_call_new (f := 11)); exact rfl; exact rfl; exact sJ_)); exact eV_; exact (fun w hw => play_calls31 hcalm w (hB _ _ _ _ (by exact rL_) hw)); rintro v NR ⟨ar, cr, rds, rfl, ⟨hR, hrl⟩, oR⟩ <;> (try simp only [List.cons_append, List.nil_append])) | ((with_reducible first | apply o_move | apply o_assign | apply o_faddr0 | apply o_not_d); exact rfl; exact rfl) | ((with_reducible apply gdo_load); first | refine wo_load (h := ?_) | refine wo_loadAll (h := ?_) | refine wo_loadC (h := ?_) | refine wo_ldV (h := ?_) | refine wo_ldF (h := ?_)) | ((with_reducible first | apply o_lss | apply o_geq | apply o_eql | apply o_neq | apply o_extract); exact rfl; exact rfl; exact rfl) | ((with_reducible first | apply o_alloc | apply o_makeMap0); exact rfl; intro _) | ((with_reducible apply o_box); exact rfl; exact rfl; exact rfl; intro _) | ((with_reducible apply gdo_store); first | refine wo_store1 (h := ?_) | refine wo_storeA (h := ?_)) | ((with_reducible apply o_len); infer_instance; exact rfl; exact rfl) | ((with_reducible first | apply c_seq | apply c_block | apply c_region | apply c_nil | apply c_ret | apply c_exit | apply c_skip)) | ((with_reducible first | apply e_then | apply e_then_ret | apply e_then_exit | apply e_in | apply e_in_ret | apply e_in_same)))
  rename_i b1 b3 b6
  apply c_loop (σ := Nat) (Fs := fun i => [(38, .int .i64 i), (37, .int .i64 p.items.length), (36, .slice ai p.items.length ci), (6, .map (some b6)), (4, .slice ar (Plt.playF p).length cr), (3, ptr b3)])
    (Ls := fun i => ⟨b6, MO (MM kI kI (Plt.stopsF (p.items.take i))), true⟩ :: (NR ++ (⟨b3, Ce [.slice am p.ms.length cm, .slice ai p.items.length ci, .slice ap p.passes.length cp] 29, true⟩ :: (NB ++ [])))) (I := fun i => i ≤ p.items.length) (μ := fun i => p.items.length - i) (s0 := 0)
  · exact Nat.zero_le _
  · exact fS_
  · exact hS_
  intro i hi
  have hi : i ≤ p.items.length := hi
  by_cases hlt : i < p.items.length
  · obtain ⟨⟨xi, xs, xb⟩, hx⟩ : ∃ y, p.items[i]? = some y := ⟨_, List.getElem?_eq_getElem hlt⟩
    refine st_know (fun w' hw' => SV.ptr (hB _ _ _ _ (by exact rL_) hw').items hx) ?_
    rintro ⟨bI, oI, rfl⟩
    have hsn := Plt.stopsF_nodup (p.items.take i)
    have hput : putF xi xs (Plt.stopsF (p.items.take i)) = Plt.stopsF (p.items.take (i + 1)) := by rw [take_snoc hx, Plt.stopsF_snoc]
    as_aux_lemma =>
      repeat' (first | ((with_reducible apply c_cond_t); exact rfl; exact decide_eq_true (by omega)) | ((with_reducible apply o_ldPV (l := [.int .i64 xi, .int .i64 xs, .int .i64 xb])); infer_instance; infer_instance; exact rfl; (intro w' hw' j' v' hj'; exact SV.cell (hB _ _ _ _ (by exact rL_) hw').items hx hj'); exact rfl; exact rfl) | ((with_reducible apply o_mapPut (κ := kI) (ν := kI) (k := xi) (v := xs)); infer_instance; infer_instance; exact rfl; exact rfl; exact rfl; exact aT_; assumption; exact uP_) | ((with_reducible first | apply o_move | apply o_assign | apply o_faddr0 | apply o_not_d); exact rfl; exact rfl) | ((with_reducible apply gdo_load); first | refine wo_load (h := ?_) | refine wo_loadAll (h := ?_) | refine wo_loadC (h := ?_) | refine wo_ldV (h := ?_) | refine wo_ldF (h := ?_)) | ((with_reducible first | apply o_lss | apply o_geq | apply o_eql | apply o_neq | apply o_extract); exact rfl; exact rfl; exact rfl) | ((with_reducible apply o_add); exact rfl; exact rfl; exact rfl; (constructor <;> omega)) | ((with_reducible first | apply o_alloc | apply o_makeMap0); exact rfl; intro _) | ((with_reducible apply gdo_store); first | refine wo_store1 (h := ?_) | refine wo_storeA (h := ?_)) | ((with_reducible apply o_idx); infer_instance; infer_instance; exact rfl; exact rfl; (first | exact rfl | omega); exact rfl; (first | assumption | omega | decide)) | ((with_reducible first | apply c_seq | apply c_block | apply c_region | apply c_nil | apply c_ret | apply c_exit | apply c_skip)) | ((with_reducible first | apply e_then | apply e_then_ret | apply e_then_exit | apply e_in | apply e_in_ret | apply e_in_same)))
      refine l_again (i + 1) (show i + 1 ≤ p.items.length by omega) (show p.items.length - (i + 1) < p.items.length - i by omega) ?_ ?_
      · exact fS_
      · (try dsimp only); rw [← hput]; exact hS_
  obtain rfl : i = p.items.length := by omega
  rw [List.take_length]
  repeat' (first | ((with_reducible apply c_cond_f); exact rfl; exact decide_eq_false (by omega)) | ((with_reducible first | apply o_move | apply o_assign | apply o_faddr0 | apply o_not_d); exact rfl; exact rfl) | ((with_reducible first | apply o_lss | apply o_geq | apply o_eql | apply o_neq | apply o_extract); exact rfl; exact rfl; exact rfl) | ((with_reducible apply o_len); infer_instance; exact rfl; exact rfl) | ((with_reducible first | apply c_seq | apply c_block | apply c_region | apply c_nil | apply c_ret | apply c_exit | apply c_skip)) | ((with_reducible first | apply e_then | apply e_then_ret | apply e_then_exit | apply e_in | apply e_in_ret | apply e_in_same)))
  apply c_loop (σ := Nat) (Fs := fun k => [(50, .int .i64 k), (49, .int .i64 (Plt.playF p).length), (48, .slice ar (Plt.playF p).length cr), (6, .map (some b6)), (4, .slice ar (Plt.playF p).length cr), (3, ptr b3)])
    (Ls := fun k => ⟨b6, MO (MM kI kI (Plt.stopsF p.items)), true⟩ :: (NR ++ (⟨b3, Ce [.slice am p.ms.length cm, .slice ai p.items.length ci, .slice ap p.passes.length cp] 29, true⟩ :: (NB ++ [])))) (I := fun k => k ≤ (Plt.playF p).length) (μ := fun k => (Plt.playF p).length - k) (s0 := 0)
  · exact Nat.zero_le _
  · exact fS_
  · exact hS_
  intro k hk
  have hk : k ≤ (Plt.playF p).length := hk
  by_cases hlt2 : k < (Plt.playF p).length
  · obtain ⟨r, hr⟩ : ∃ r, (Plt.playF p)[k]? = some r := ⟨_, List.getElem?_eq_getElem hlt2⟩
    obtain ⟨y, hy⟩ : ∃ y, p.passes[k]? = some y := ⟨_, List.getElem?_eq_getElem (by omega)⟩
    obtain ⟨hsn, hsb⟩ := run_slices hcalm hy hr
    have htbl := (hv.pok k y hy).2.2.1.1
    obtain ⟨j, m, hm, hmid, hmr, -, -, hmsl, hcs⟩ := hv.run hy hr
    refine st_know (fun w' hw' => RunsV.at (hR _ _ _ _ (by exact rL_) hw') hr) ?_; rintro ⟨br, offr, x1, k1, x2, k2, x3, n3, k3, x4, n4, k4, x5, k5, x6, k6, x7, n7, k7, rfl, hd, hn3, g0⟩
    refine st_know (fun w' hw' => PlV.passAt (hB _ _ _ _ (by exact rL_) hw') hy) ?_; rintro ⟨bP, oP, p1, l1, p2, l2, p3, l3, rfl, hpd, gp⟩
    refine st_know (fun w' hw' => PlV.machAt (hB _ _ _ _ (by exact rL_) hw') hm) ?_; rintro ⟨bM, oM, m1, l4, m2, l5, rfl, hdm, gm⟩
    rcases hcs with hc | ⟨ready, hc⟩
    · have hfin : r.fin = -1 := by rw [hc.eq]; rfl
      as_aux_lemma =>
        repeat' (first | ((with_reducible apply c_cond_t); exact rfl; exact decide_eq_true (by omega)) | ((with_reducible apply o_ldPV (l := [.int .i64 r.pass, .int .i64 r.start, .int .i64 r.fin, .slice x1 r.items.length k1, .slice x2 r.slices.length k2, .slice x3 n3 k3, .slice x4 n4 k4, .slice x5 r.res.over.length k5, .slice x6 r.res.rej.length k6, .slice x7 n7 k7])); infer_instance; infer_instance; exact rfl; (intro w' hw' j' v' hj'; exact SV.cell (hR _ _ _ _ (by exact rL_) hw').1 hd (g0 _ _ hj')); exact rfl; exact rfl) | ((with_reducible first | apply o_move | apply o_assign | apply o_faddr0 | apply o_not_d); exact rfl; exact rfl) | ((with_reducible apply gdo_load); first | refine wo_load (h := ?_) | refine wo_loadAll (h := ?_) | refine wo_loadC (h := ?_) | refine wo_ldV (h := ?_) | refine wo_ldF (h := ?_)) | ((with_reducible first | apply o_lss | apply o_geq | apply o_eql | apply o_neq | apply o_extract); exact rfl; exact rfl; exact rfl) | ((with_reducible apply o_add); exact rfl; exact rfl; exact rfl; (constructor <;> omega)) | ((with_reducible first | apply o_alloc | apply o_makeMap0); exact rfl; intro _) | ((with_reducible apply gdo_store); first | refine wo_store1 (h := ?_) | refine wo_storeA (h := ?_)) | ((with_reducible apply o_idx); infer_instance; infer_instance; exact rfl; exact rfl; (first | exact rfl | omega); exact rfl; (first | assumption | omega | decide)) | ((with_reducible first | apply c_seq | apply c_block | apply c_region | apply c_nil | apply c_ret | apply c_exit | apply c_skip)) | ((with_reducible first | apply e_then | apply e_then_ret | apply e_then_exit | apply e_in | apply e_in_ret | apply e_in_same)))
        refine l_again (k + 1) (show k + 1 ≤ (Plt.playF p).length by omega) (show (Plt.playF p).length - (k + 1) < (Plt.playF p).length - k by omega) ?_ ?_
        · exact fS_
        · exact hS_
    · have hfin := (hc.fin_bd hv hy hmr).2.1
      have hT := (hc.items hv hy).symm
      have hTl : r.items.length ≤ 1000000 := by have := (hc.mem hv hy hmsl).2.2; omega
      have hskl := hc.stk_len
      repeat' (first | ((with_reducible apply c_cond_t); exact rfl; exact decide_eq_true (by omega)) | ((with_reducible apply c_cond_f); exact rfl; exact decide_eq_false (by omega)) | ((with_reducible apply o_ldPV (l := [.int .i64 r.pass, .int .i64 r.start, .int .i64 r.fin, .slice x1 r.items.length k1, .slice x2 r.slices.length k2, .slice x3 n3 k3, .slice x4 n4 k4, .slice x5 r.res.over.length k5, .slice x6 r.res.rej.length k6, .slice x7 n7 k7])); infer_instance; infer_instance; exact rfl; (intro w' hw' j' v' hj'; exact SV.cell (hR _ _ _ _ (by exact rL_) hw').1 hd (g0 _ _ hj')); exact rfl; exact rfl) | ((with_reducible apply o_ldPV (l := [.int .i64 y.id, .int .i64 y.mach, .int .i64 y.rel, .slice p1 y.src.length l1, .slice p2 y.table.length l2, .slice p3 y.unread.length l3])); infer_instance; infer_instance; exact rfl; (intro w' hw' j' v' hj'; exact SV.cell (hB _ _ _ _ (by exact rL_) hw').ps hpd (gp _ _ hj')); exact rfl; exact rfl) | ((with_reducible apply c_regionD0 (id := 16) [(5, takenφ r.items)]); kernel_rfl; kernel_rfl) | ((first | ((with_reducible apply o_call_new (f := 21)); exact rfl) | ((with_reducible apply q_call_new (f := 21)); exact rfl; exact rfl; exact sJ_)); exact eV_; exact (fun w hw => taken_calls hy (by omega) (hv.src_nn hy) hT hTl w (hB _ _ _ _ (by exact rL_) hw) (hR _ _ _ _ (by exact rL_) hw)); rintro v NT ⟨at_, ct, rfl, hOT⟩ <;> (try simp only [List.cons_append, List.nil_append])) | ((first | ((with_reducible apply o_call_pure (f := 20)); exact rfl) | ((with_reducible apply q_call_pure (f := 20)); exact rfl; kernel_rfl; exact rfl; exact sJ_)); exact eV_; exact (fun w hw => same_yes rfl w ((hR _ _ _ _ (by exact rL_) hw).2.2 k _ _ hd hr).items (hOT.sv encI_len (by exact rL_) hw))) | ((first | ((with_reducible apply o_call_pure (f := 17)); exact rfl) | ((with_reducible apply q_call_pure (f := 17)); exact rfl; kernel_rfl; exact rfl; exact sJ_)); exact eV_; exact (fun w hw => machine_is hv.mnd hmid hdm hm w (hB _ _ _ _ (by exact rL_) hw))) | ((with_reducible apply q_field1); exact rfl; exact rfl; exact rfl) | ((with_reducible first | apply o_move | apply o_assign | apply o_faddr0 | apply o_not_d); exact rfl; exact rfl) | ((with_reducible apply gdo_load); first | refine wo_load (h := ?_) | refine wo_loadAll (h := ?_) | refine wo_loadC (h := ?_) | refine wo_ldV (h := ?_) | refine wo_ldF (h := ?_)) | ((with_reducible first | apply o_lss | apply o_geq | apply o_eql | apply o_neq | apply o_extract); exact rfl; exact rfl; exact rfl) | ((with_reducible first | apply o_alloc | apply o_makeMap0); exact rfl; intro _) | ((with_reducible apply gdo_store); first | refine wo_store1 (h := ?_) | refine wo_storeA (h := ?_)) | ((with_reducible apply o_len); infer_instance; exact rfl; exact rfl) | ((with_reducible apply o_idx); infer_instance; infer_instance; exact rfl; exact rfl; (first | exact rfl | omega); exact rfl; (first | assumption | omega | decide)) | ((with_reducible first | apply c_seq | apply c_block | apply c_region | apply c_nil | apply c_ret | apply c_exit | apply c_skip)) | ((with_reducible first | apply e_then | apply e_then_ret | apply e_then_exit | apply e_in | apply e_in_ret | apply e_in_same)) | ((with_reducible apply q_nil); try simp only [ents, List.cons_append, List.nil_append]) | ((with_reducible first | apply q_move | apply q_assign | apply q_faddr0); exact rfl; exact rfl) | ((with_reducible first | apply q_faddr); exact rfl; exact rfl) | ((with_reducible apply gdq_load); first | refine wq_load (h := ?_) | refine wq_loadAll (h := ?_) | refine wq_loadC (h := ?_) | refine wq_ldV (h := ?_) | refine wq_ldF (h := ?_)) | ((with_reducible first | apply q_lss | apply q_geq | apply q_neq | apply q_extract); exact rfl; exact rfl; exact rfl) | ((with_reducible apply q_not); exact rfl; exact rfl) | ((with_reducible apply q_pick_f); exact rfl; exact fF_; exact rfl; exact rfl) | ((with_reducible apply gdq_call_len); first | refine wq_len (h := ?_)) | ((with_reducible first | apply h_run); exact rfl; exact gG_))
      rename_i b10 b11
      obtain ⟨hmem, hnd, hlen⟩ := hc.mem hv hy hmsl
      have hskc := hc.stk_len
      apply c_loop (σ := Nat) (Fs := fun n => [(87, .int .i64 n), (86, .int .i64 r.items.length), (85, .slice x1 r.items.length k1), (11, ptr b11), (10, ptr b10), (9, .int .i64 k), (50, .int .i64 k), (49, .int .i64 (Plt.playF p).length), (48, .slice (some ⟨br, offr, none⟩) (Plt.playF p).length cr), (6, .map (some b6)), (4, .slice (some ⟨br, offr, none⟩) (Plt.playF p).length cr), (3, ptr b3)])
        (Ls := fun n => ⟨b11, Ce [.int .i64 y.id, .int .i64 y.mach, .int .i64 y.rel, .slice p1 y.src.length l1, .slice p2 y.table.length l2, .slice p3 y.unread.length l3] 58, true⟩ :: ⟨b10, Ce [.int .i64 r.pass, .int .i64 r.start, .int .i64 r.fin, .slice x1 r.items.length k1, .slice x2 r.slices.length k2, .slice x3 n3 k3, .slice x4 n4 k4, .slice x5 r.res.over.length k5, .slice x6 r.res.rej.length k6, .slice x7 n7 k7] 50, true⟩ :: ⟨b6, MO (MM kI kI (Plt.stopsF p.items)), true⟩ :: (NR ++ (⟨b3, Ce [.slice (some ⟨bM, oM, none⟩) p.ms.length cm, .slice ai p.items.length ci, .slice (some ⟨bP, oP, none⟩) p.passes.length cp] 29, true⟩ :: (NB ++ [])))) (I := fun n => n ≤ r.items.length) (μ := fun n => r.items.length - n) (s0 := 0)
      · exact Nat.zero_le _
      · exact fS_
      · have oT := hOT.own; exact hS_
      intro n hn
      have hn : n ≤ r.items.length := hn
      by_cases hlt3 : n < r.items.length
      · obtain ⟨z, hz⟩ : ∃ z, r.items[n]? = some z := ⟨_, List.getElem?_eq_getElem hlt3⟩
        have hzm := List.mem_of_getElem? hz
        obtain ⟨s, hzs⟩ := Plt.stops_some p.items (hmem z hzm)
        have hplc := hc.placed hzm
        rw [Plt.feed_to hzs] at hplc
        have hal : Plt.allN r z r.res.stackers.length ≤ 1000000 := by rw [hplc.all]; omega
        obtain ⟨cu, hcu⟩ : ∃ cu, (y.unread.count z : Int) = cu := ⟨_, rfl⟩
        have hcb : cu = 0 ↔ decide (z ∉ y.unread) = true := by rw [← hcu, decide_eq_true_iff, ← List.count_eq_zero]; omega
        generalize decide (z ∉ y.unread) = bu at hplc hcb
        refine st_know (fun w' hw' => SV.ptr ((hR _ _ _ _ (by exact rL_) hw').2.2 k _ _ hd hr).items hz) ?_
        rintro ⟨bz, oz, rfl⟩
        repeat' (first | ((with_reducible apply c_cond_t); exact rfl; exact decide_eq_true (by omega)) | ((with_reducible apply o_ldP); infer_instance; exact rfl; (intro w' hw'; exact SV.cell1 ((hR _ _ _ _ (by exact rL_) hw').2.2 k _ _ hd hr).items hz rfl); exact rfl) | ((with_reducible first | apply o_move | apply o_assign | apply o_faddr0 | apply o_not_d); exact rfl; exact rfl) | ((with_reducible apply gdo_load); first | refine wo_load (h := ?_) | refine wo_loadAll (h := ?_) | refine wo_loadC (h := ?_) | refine wo_ldV (h := ?_) | refine wo_ldF (h := ?_)) | ((with_reducible first | apply o_lss | apply o_geq | apply o_eql | apply o_neq | apply o_extract); exact rfl; exact rfl; exact rfl) | ((with_reducible apply o_len); infer_instance; exact rfl; exact rfl) | ((with_reducible apply o_idx); infer_instance; infer_instance; exact rfl; exact rfl; (first | exact rfl | omega); exact rfl; (first | assumption | omega | decide)) | ((with_reducible first | apply c_seq | apply c_block | apply c_region | apply c_nil | apply c_ret | apply c_exit | apply c_skip)) | ((with_reducible first | apply e_then | apply e_then_ret | apply e_then_exit | apply e_in | apply e_in_ret | apply e_in_same)))
        apply c_loop (σ := Nat) (Fs := fun j => [(94, .int .i64 j), (93, .int .i64 y.table.length), (92, .slice p2 y.table.length l2), (14, .int .i64 (Plt.toF (y.table.take j) s bu)), (13, .int .i64 z), (87, .int .i64 n), (86, .int .i64 r.items.length), (85, .slice (some ⟨bz, oz, none⟩) r.items.length k1), (11, ptr b11), (10, ptr b10), (9, .int .i64 k), (50, .int .i64 k), (49, .int .i64 (Plt.playF p).length), (48, .slice (some ⟨br, offr, none⟩) (Plt.playF p).length cr), (6, .map (some b6)), (4, .slice (some ⟨br, offr, none⟩) (Plt.playF p).length cr), (3, ptr b3)])
          (Ls := fun j => ⟨b11, Ce [.int .i64 y.id, .int .i64 y.mach, .int .i64 y.rel, .slice p1 y.src.length l1, .slice p2 y.table.length l2, .slice p3 y.unread.length l3] 58, true⟩ :: ⟨b10, Ce [.int .i64 r.pass, .int .i64 r.start, .int .i64 r.fin, .slice (some ⟨bz, oz, none⟩) r.items.length k1, .slice x2 r.slices.length k2, .slice x3 n3 k3, .slice x4 n4 k4, .slice x5 r.res.over.length k5, .slice x6 r.res.rej.length k6, .slice x7 n7 k7] 50, true⟩ :: ⟨b6, MO (MM kI kI (Plt.stopsF p.items)), true⟩ :: (NR ++ (⟨b3, Ce [.slice (some ⟨bM, oM, none⟩) p.ms.length cm, .slice ai p.items.length ci, .slice (some ⟨bP, oP, none⟩) p.passes.length cp] 29, true⟩ :: (NB ++ [])))) (I := fun j => j ≤ y.table.length) (μ := fun j => y.table.length - j) (s0 := 0)
        · exact Nat.zero_le _
        · (try dsimp only); rw [show Plt.toF (y.table.take 0) s bu = -1 from by unfold Plt.toF; simp [Plt.tableF, asF]]; exact fS_
        · exact hS_
        intro j hj
        have hj : j ≤ y.table.length := hj
        by_cases hlt4 : j < y.table.length
        · obtain ⟨⟨es, et⟩, hrow⟩ : ∃ e, y.table[j]? = some e := ⟨_, List.getElem?_eq_getElem hlt4⟩
          have hto := Plt.toF_snoc (stop := s) (b := bu) hrow
          dsimp only at hto
          refine st_know (fun w' hw' => SV.ptr ((hB _ _ _ _ (by exact rL_) hw').pass k _ _ hpd hy).table hrow) ?_
          rintro ⟨be, oe, rfl⟩
          by_cases hcc : es = s ∧ bu = true
          · have hc0 := hcb.2 hcc.2
            rw [if_pos hcc] at hto
            as_aux_lemma =>
              repeat' (first | ((with_reducible apply c_cond_t); exact rfl; exact decide_eq_true (by omega)) | ((with_reducible apply o_pick_t); exact rfl; exact decide_eq_true (by omega); exact rfl; exact rfl) | ((with_reducible apply g_run); exact rfl; exact decide_eq_true (by omega)) | ((with_reducible apply o_ldPV (l := [.int .i64 es, .int .i64 et])); infer_instance; infer_instance; exact rfl; (intro w' hw' j' v' hj'; exact SV.cell ((hB _ _ _ _ (by exact rL_) hw').pass k _ _ hpd hy).table hrow hj'); exact rfl; exact rfl) | ((with_reducible apply o_lookM_in (κ := kI) (ν := kI) (l := Plt.stopsF p.items) (k := z) (v := s)); infer_instance; infer_instance; exact rfl; exact rfl; exact kN_; exact hstn; exact hzs; exact rfl) | ((first | ((with_reducible apply o_call_pure (f := 22)); exact rfl) | ((with_reducible apply q_call_pure (f := 22)); exact rfl; kernel_rfl; exact rfl; exact sJ_)); exact eV_; exact (fun w hw => in_is hcu w ((hB _ _ _ _ (by exact rL_) hw).pass k _ _ hpd hy).unread)) | ((with_reducible first | apply o_move | apply o_assign | apply o_faddr0 | apply o_not_d); exact rfl; exact rfl) | ((with_reducible apply gdo_load); first | refine wo_load (h := ?_) | refine wo_loadAll (h := ?_) | refine wo_loadC (h := ?_) | refine wo_ldV (h := ?_) | refine wo_ldF (h := ?_)) | ((with_reducible first | apply o_lss | apply o_geq | apply o_eql | apply o_neq | apply o_extract); exact rfl; exact rfl; exact rfl) | ((with_reducible apply o_add); exact rfl; exact rfl; exact rfl; (constructor <;> omega)) | ((with_reducible first | apply o_alloc | apply o_makeMap0); exact rfl; intro _) | ((with_reducible apply gdo_store); first | refine wo_store1 (h := ?_) | refine wo_storeA (h := ?_)) | ((with_reducible apply o_idx); infer_instance; infer_instance; exact rfl; exact rfl; (first | exact rfl | omega); exact rfl; (first | assumption | omega | decide)) | ((with_reducible first | apply c_seq | apply c_block | apply c_region | apply c_nil | apply c_ret | apply c_exit | apply c_skip)) | ((with_reducible first | apply e_then | apply e_then_ret | apply e_then_exit | apply e_in | apply e_in_ret | apply e_in_same)))
              refine l_again (j + 1) (show j + 1 ≤ y.table.length by omega) (show y.table.length - (j + 1) < y.table.length - j by omega) ?_ ?_
              · (try dsimp only); rw [hto]; exact fS_
              · exact hS_
          · rw [if_neg hcc] at hto
            have hcc2 : es = s → cu ≠ 0 := fun e h0 => hcc ⟨e, hcb.1 h0⟩
            as_aux_lemma =>
              repeat' (first | ((with_reducible apply c_cond_t); exact rfl; exact decide_eq_true (by omega)) | ((with_reducible apply c_cond_f); exact rfl; exact decide_eq_false (by omega)) | ((with_reducible apply o_pick_t); exact rfl; exact decide_eq_true (by omega); exact rfl; exact rfl) | ((with_reducible apply o_pick_f); exact rfl; exact decide_eq_false (by omega); exact rfl; exact rfl) | ((with_reducible apply g_run); exact rfl; exact decide_eq_true (by omega)) | ((with_reducible apply g_skip); exact rfl; exact decide_eq_false (by omega); exact rfl) | ((with_reducible apply o_ldPV (l := [.int .i64 es, .int .i64 et])); infer_instance; infer_instance; exact rfl; (intro w' hw' j' v' hj'; exact SV.cell ((hB _ _ _ _ (by exact rL_) hw').pass k _ _ hpd hy).table hrow hj'); exact rfl; exact rfl) | ((with_reducible apply o_lookM_in (κ := kI) (ν := kI) (l := Plt.stopsF p.items) (k := z) (v := s)); infer_instance; infer_instance; exact rfl; exact rfl; exact kN_; exact hstn; exact hzs; exact rfl) | ((first | ((with_reducible apply o_call_pure (f := 22)); exact rfl) | ((with_reducible apply q_call_pure (f := 22)); exact rfl; kernel_rfl; exact rfl; exact sJ_)); exact eV_; exact (fun w hw => in_is hcu w ((hB _ _ _ _ (by exact rL_) hw).pass k _ _ hpd hy).unread)) | ((with_reducible first | apply o_move | apply o_assign | apply o_faddr0 | apply o_not_d); exact rfl; exact rfl) | ((with_reducible apply gdo_load); first | refine wo_load (h := ?_) | refine wo_loadAll (h := ?_) | refine wo_loadC (h := ?_) | refine wo_ldV (h := ?_) | refine wo_ldF (h := ?_)) | ((with_reducible first | apply o_lss | apply o_geq | apply o_eql | apply o_neq | apply o_extract); exact rfl; exact rfl; exact rfl) | ((with_reducible apply o_add); exact rfl; exact rfl; exact rfl; (constructor <;> omega)) | ((with_reducible first | apply o_alloc | apply o_makeMap0); exact rfl; intro _) | ((with_reducible apply gdo_store); first | refine wo_store1 (h := ?_) | refine wo_storeA (h := ?_)) | ((with_reducible apply o_idx); infer_instance; infer_instance; exact rfl; exact rfl; (first | exact rfl | omega); exact rfl; (first | assumption | omega | decide)) | ((with_reducible first | apply c_seq | apply c_block | apply c_region | apply c_nil | apply c_ret | apply c_exit | apply c_skip)) | ((with_reducible apply c_cond_f); exact rfl; exact fF_) | ((with_reducible first | apply e_then | apply e_then_ret | apply e_then_exit | apply e_in | apply e_in_ret | apply e_in_same)) | ((with_reducible apply g_split_d); exact rfl; intro hcond; rotate_left; intro hcond; rotate_left))
              all_goals try (exfalso; omega)
              all_goals
                refine l_again (j + 1) (show j + 1 ≤ y.table.length by omega) (show y.table.length - (j + 1) < y.table.length - j by omega) ?_ ?_
                · (try dsimp only); rw [hto]; exact fS_
                · exact hS_
        obtain rfl : j = y.table.length := by omega
        rw [List.take_length]
        generalize Plt.toF y.table s bu = st at hplc ⊢
        by_cases hst : st < 0
        · have hh4 := decide_eq_true (hplc.rej hst)
          as_aux_lemma =>
            repeat' (first | ((with_reducible apply c_cond_f); exact rfl; exact decide_eq_false (by omega)) | ((with_reducible apply o_pick_t); exact rfl; exact decide_eq_true (by omega); exact rfl; exact rfl) | ((with_reducible apply o_pick_f); exact rfl; exact decide_eq_false (by omega); exact rfl; exact rfl) | ((with_reducible apply g_run); exact rfl; exact decide_eq_true (by omega)) | ((with_reducible apply g_skip); exact rfl; exact decide_eq_false (by omega); exact rfl) | ((first | ((with_reducible apply o_call_pure (f := 15)); exact rfl) | ((with_reducible apply q_call_pure (f := 15)); exact rfl; kernel_rfl; exact rfl; exact sJ_)); exact eV_; exact (fun w hw => holds_is (.inr (.inr rfl)) hal hh4 w ((hR _ _ _ _ (by exact rL_) hw).2.2 k _ _ hd hr))) | ((with_reducible first | apply o_move | apply o_assign | apply o_faddr0 | apply o_not_d); exact rfl; exact rfl) | ((with_reducible apply gdo_load); first | refine wo_load (h := ?_) | refine wo_loadAll (h := ?_) | refine wo_loadC (h := ?_) | refine wo_ldV (h := ?_) | refine wo_ldF (h := ?_)) | ((with_reducible first | apply o_lss | apply o_geq | apply o_eql | apply o_neq | apply o_extract); exact rfl; exact rfl; exact rfl) | ((with_reducible apply o_not); exact rfl; exact rfl) | ((with_reducible apply o_add); exact rfl; exact rfl; exact rfl; (constructor <;> omega)) | ((with_reducible apply o_pick_f); exact rfl; exact fF_; exact rfl; exact rfl) | ((with_reducible apply gdo_build); first | refine wo_build (h := ?_)) | ((with_reducible apply g_skip); exact rfl; exact gG_; exact rfl) | ((with_reducible first | apply c_seq | apply c_block | apply c_region | apply c_nil | apply c_ret | apply c_exit | apply c_skip)) | ((with_reducible apply c_cond_f); exact rfl; exact fF_) | ((with_reducible first | apply e_then | apply e_then_ret | apply e_then_exit | apply e_in | apply e_in_ret | apply e_in_same)))
            refine l_again (n + 1) (show n + 1 ≤ r.items.length by omega) (show r.items.length - (n + 1) < r.items.length - n by omega) ?_ ?_
            · exact fS_
            · exact hS_
        · have hput := hplc.put (by omega)
          cases hb2 : decide (Plt.holdsF r z 2 r.pass st) with
          | true =>
            as_aux_lemma =>
              repeat' (first | ((with_reducible apply c_cond_f); exact rfl; exact decide_eq_false (by omega)) | ((with_reducible apply o_pick_t); exact rfl; exact decide_eq_true (by omega); exact rfl; exact rfl) | ((with_reducible apply o_pick_f); exact rfl; exact decide_eq_false (by omega); exact rfl; exact rfl) | ((with_reducible apply g_run); exact rfl; exact decide_eq_true (by omega)) | ((with_reducible apply g_skip); exact rfl; exact decide_eq_false (by omega); exact rfl) | ((first | ((with_reducible apply o_call_pure (f := 15)); exact rfl) | ((with_reducible apply q_call_pure (f := 15)); exact rfl; kernel_rfl; exact rfl; exact sJ_)); exact eV_; exact (fun w hw => holds_is (.inl rfl) hal hb2 w ((hR _ _ _ _ (by exact rL_) hw).2.2 k _ _ hd hr))) | ((with_reducible first | apply o_move | apply o_assign | apply o_faddr0 | apply o_not_d); exact rfl; exact rfl) | ((with_reducible apply gdo_load); first | refine wo_load (h := ?_) | refine wo_loadAll (h := ?_) | refine wo_loadC (h := ?_) | refine wo_ldV (h := ?_) | refine wo_ldF (h := ?_)) | ((with_reducible first | apply o_lss | apply o_geq | apply o_eql | apply o_neq | apply o_extract); exact rfl; exact rfl; exact rfl) | ((with_reducible apply o_not); exact rfl; exact rfl) | ((with_reducible apply o_add); exact rfl; exact rfl; exact rfl; (constructor <;> omega)) | ((with_reducible apply o_pick_f); exact rfl; exact fF_; exact rfl; exact rfl) | ((with_reducible apply gdo_build); first | refine wo_build (h := ?_)) | ((with_reducible apply g_skip); exact rfl; exact gG_; exact rfl) | ((with_reducible first | apply c_seq | apply c_block | apply c_region | apply c_nil | apply c_ret | apply c_exit | apply c_skip)) | ((with_reducible apply c_cond_f); exact rfl; exact fF_) | ((with_reducible first | apply e_then | apply e_then_ret | apply e_then_exit | apply e_in | apply e_in_ret | apply e_in_same)))
              refine l_again (n + 1) (show n + 1 ≤ r.items.length by omega) (show r.items.length - (n + 1) < r.items.length - n by omega) ?_ ?_
              · exact fS_
              · exact hS_
          | false =>
            have hb3 := decide_eq_true (hput.resolve_left (of_decide_eq_false hb2))
            as_aux_lemma =>
              repeat' (first | ((with_reducible apply c_cond_f); exact rfl; exact decide_eq_false (by omega)) | ((with_reducible apply o_pick_t); exact rfl; exact decide_eq_true (by omega); exact rfl; exact rfl) | ((with_reducible apply o_pick_f); exact rfl; exact decide_eq_false (by omega); exact rfl; exact rfl) | ((with_reducible apply g_run); exact rfl; exact decide_eq_true (by omega)) | ((with_reducible apply g_skip); exact rfl; exact decide_eq_false (by omega); exact rfl) | ((first | ((with_reducible apply o_call_pure (f := 15)); exact rfl) | ((with_reducible apply q_call_pure (f := 15)); exact rfl; kernel_rfl; exact rfl; exact sJ_)); exact eV_; exact (fun w hw => holds_is (.inl rfl) hal hb2 w ((hR _ _ _ _ (by exact rL_) hw).2.2 k _ _ hd hr))) | ((first | ((with_reducible apply o_call_pure (f := 15)); exact rfl) | ((with_reducible apply q_call_pure (f := 15)); exact rfl; kernel_rfl; exact rfl; exact sJ_)); exact eV_; exact (fun w hw => holds_is (.inr (.inl rfl)) hal hb3 w ((hR _ _ _ _ (by exact rL_) hw).2.2 k _ _ hd hr))) | ((with_reducible first | apply o_move | apply o_assign | apply o_faddr0 | apply o_not_d); exact rfl; exact rfl) | ((with_reducible apply gdo_load); first | refine wo_load (h := ?_) | refine wo_loadAll (h := ?_) | refine wo_loadC (h := ?_) | refine wo_ldV (h := ?_) | refine wo_ldF (h := ?_)) | ((with_reducible first | apply o_lss | apply o_geq | apply o_eql | apply o_neq | apply o_extract); exact rfl; exact rfl; exact rfl) | ((with_reducible apply o_not); exact rfl; exact rfl) | ((with_reducible apply o_add); exact rfl; exact rfl; exact rfl; (constructor <;> omega)) | ((with_reducible apply o_pick_t); exact rfl; exact tT_; exact rfl; exact rfl) | ((with_reducible apply gdo_build); first | refine wo_build (h := ?_)) | ((with_reducible first | apply g_run); exact rfl; exact gG_) | ((with_reducible first | apply c_seq | apply c_block | apply c_region | apply c_nil | apply c_ret | apply c_exit | apply c_skip)) | ((with_reducible apply c_cond_f); exact rfl; exact fF_) | ((with_reducible first | apply e_then | apply e_then_ret | apply e_then_exit | apply e_in | apply e_in_ret | apply e_in_same)))
              refine l_again (n + 1) (show n + 1 ≤ r.items.length by omega) (show r.items.length - (n + 1) < r.items.length - n by omega) ?_ ?_
              · exact fS_
              · exact hS_
      obtain rfl : n = r.items.length := by omega
      as_aux_lemma =>
        repeat' (first | ((with_reducible apply c_cond_f); exact rfl; exact decide_eq_false (by omega)) | ((with_reducible first | apply o_move | apply o_assign | apply o_faddr0 | apply o_not_d); exact rfl; exact rfl) | ((with_reducible first | apply o_lss | apply o_geq | apply o_eql | apply o_neq | apply o_extract); exact rfl; exact rfl; exact rfl) | ((with_reducible apply o_add); exact rfl; exact rfl; exact rfl; (constructor <;> omega)) | ((with_reducible first | apply c_seq | apply c_block | apply c_region | apply c_nil | apply c_ret | apply c_exit | apply c_skip)) | ((with_reducible first | apply e_then | apply e_then_ret | apply e_then_exit | apply e_in | apply e_in_ret | apply e_in_same)))
        refine l_again (k + 1) (show k + 1 ≤ (Plt.playF p).length by omega) (show (Plt.playF p).length - (k + 1) < (Plt.playF p).length - k by omega) ?_ ?_
        · exact fS_
        · exact hS_
  obtain rfl : k = (Plt.playF p).length := by omega
  repeat' (first | ((with_reducible apply c_cond_f); exact rfl; exact decide_eq_false (by omega)) | ((first | ((with_reducible apply o_call_pure (f := 16)); exact rfl) | ((with_reducible apply q_call_pure (f := 16)); exact rfl; kernel_rfl; exact rfl; exact sJ_)); exact eV_; exact (fun w _ => awake_calls w)) | ((with_reducible first | apply o_move | apply o_assign | apply o_faddr0 | apply o_not_d); exact rfl; exact rfl) | ((with_reducible first | apply o_lss | apply o_geq | apply o_eql | apply o_neq | apply o_extract); exact rfl; exact rfl; exact rfl) | ((with_reducible first | apply c_seq | apply c_block | apply c_region | apply c_nil | apply c_ret | apply c_exit | apply c_skip)) | ((with_reducible first | apply e_then | apply e_then_ret | apply e_then_exit | apply e_in | apply e_in_ret | apply e_in_same)))
  apply r_body; apply res1 Try.results5; exact rV_; intro w' hw
  exact ⟨rfl, hw.below (show AO _ from by exact aO_)⟩
end Go.Proofs.Ytkhaemjoekfhiaa
namespace Go.Proofs.Ytkhaemjoekfhiaa
open Go Go.ChangeShapes Go.WideShapes Go.ChangeAt Go.RowKit Go.Sx
theorem own : ownKnob Try.prog.godebug = none := by kernel_rfl
theorem laidOut : laidOutB Try.prog = true := by kernel_rfl
theorem cellsB : Try.prog.cellsOf 5 = 1 := by kernel_rfl
section
variable {H : Type} {enc : TypeId × Value → H} {w : World}
set_option maxRecDepth 100000 in
theorem rd_byte {cs : List Value} (h : Rd enc Try.prog w 5 cs) : ∃ x : UInt8, cs = encB x ∧ True := by
  obtain ⟨n, rfl, hw⟩ := Rd.int Try.underlying5 h
  simp only [Lit.wf, Bool.and_eq_true, decide_eq_true_eq] at hw
  have h0 : 0 ≤ n := hw.1
  have h1 : n ≤ 255 := hw.2
  refine ⟨UInt8.ofNat n.toNat, ?_, trivial⟩
  unfold encB
  have : (UInt8.ofNat n.toNat).toNat = n.toNat := by
    rw [UInt8.toNat_ofNat']
    omega
  rw [this]
  congr 2
  omega
theorem cellsTSK : Try.prog.cellsOf 24 = 4 := by kernel_rfl
theorem cellsTBYTES : Try.prog.cellsOf 22 = 1 := by kernel_rfl
theorem list4 {α : Type} {l : List α} (h : l.length = 4) : ∃ a b c d, l = [a, b, c, d] := by
  match l, h with
  | [a, b, c, d], _ => exact ⟨a, b, c, d, rfl⟩
set_option maxRecDepth 100000 in
theorem arg_sketch {r : Reach} {b0 : Nat} {v : Value} {d : DataW H} {ps : List MemPlace} (hv : Value.okWide Try.prog w r b0 24 v) (h : DataW.Trod enc Try.prog w 0 (fun _ => true) true 24 v d ps) :
    ∃ v0 v1 v2 v3, ∃ x : Plt.Sk, v = .agg #[v0, v1, v2, v3] ∧ SV w 1 encB v0 x.ms ∧ SV w 1 encB v1 x.shs ∧ SV w 1 encB v2 x.its ∧ SV w 1 encB v3 x.ps := by
  obtain ⟨cs, rfl, _⟩ := okWide_struct Try.underlying24 hv
  obtain ⟨hl, hf⟩ := (Rd.of h).struct Try.underlying24
  rw [cellsTSK] at hl
  simp only [Value.cells] at hl hf
  obtain ⟨a, b, c, e, hab⟩ := list4 hl
  rw [hab] at hf
  obtain ⟨a', xa, ha, wa, _⟩ := rd_slice (good := fun _ => True) Try.underlying22 cellsB (by decide) encB_len (fun cs h => rd_byte h) (hf 0 _ rfl)
  obtain ⟨b', xb, hb, wb, _⟩ := rd_slice (good := fun _ => True) Try.underlying22 cellsB (by decide) encB_len (fun cs h => rd_byte h) (hf 1 _ rfl)
  obtain ⟨c', xc, hc, wc, _⟩ := rd_slice (good := fun _ => True) Try.underlying22 cellsB (by decide) encB_len (fun cs h => rd_byte h) (hf 2 _ rfl)
  obtain ⟨e', xe, he, we, _⟩ := rd_slice (good := fun _ => True) Try.underlying22 cellsB (by decide) encB_len (fun cs h => rd_byte h) (hf 3 _ rfl)
  obtain rfl : a = a' := by simpa [cellsTBYTES] using ha
  obtain rfl : b = b' := by simpa [cellsTBYTES] using hb
  obtain rfl : c = c' := by simpa [cellsTBYTES] using hc
  obtain rfl : e = e' := by simpa [cellsTBYTES] using he
  refine ⟨a, b, c, e, ⟨xa, xb, xc, xe⟩, ?_, wa, wb, wc, we⟩
  rw [show cs = #[a, b, c, e] from by rw [← Array.toArray_toList (xs := cs), hab]]
end
end Go.Proofs.Ytkhaemjoekfhiaa
namespace Go.Proofs.Ytkhaemjoekfhiaa
open Go Go.ChangeShapes Go.WideShapes Go.ChangeAt Go.RowKit Go.Sx
set_option maxRecDepth 100000 in
theorem plantFeeds_lifted (os : Os) (started : os.Started) (H : Type) (enc : TypeId × Value → H) :
    ReturnsInHanded {} Try.checked os 5 .any (Rows.plantFeedsSpec.pre6 enc Try.prog Try.f5 Rows.plantFeedsRow.domain false) (Rows.plantFeedsSpec.post enc Try.prog Try.f5 false true false false) := by
  refine returnsInHanded_of_change (C := Try.checked) own started (by kernel_rfl) Try.func5
    (ChangeSpec.witness6 (enc := enc) (C := Try.checked) false ⟨#[], #[.agg #[.slice none 0 0, .slice none 0 0, .slice none 0 0, .slice none 0 0]], []⟩ 8 (by kernel_rfl) (by kernel_rfl) (by kernel_rfl) (by kernel_rfl)) ?_
  intro W base args ds gs before hval0 hW hcnd _
  have hval : ∀ (j : Nat) t v, Try.f5.params[j]? = some t → args[j]? = some v → Value.okWide Try.prog W .any base t v := hval0
  have hW' := hW
  obtain ⟨p, q, hA0, hV, rfl, hfz, hnd⟩ := hW
  have hA : DataW.TrodAll enc Try.prog W 0 (fun _ => true) true Try.f5.params.toList args.toList ds p := hA0
  rw [Try.params5] at hA hval
  obtain ⟨v0, vs0, d0, ds0, p0, q0, hargs, rfl, rfl, h0, r0⟩ := trodAll_cons hA
  obtain ⟨rfl, rfl, rfl⟩ := trodAll_nil r0
  obtain rfl : args = #[v0] := by cases args; simp_all
  obtain ⟨rfl, rfl⟩ := trodVars_none hV
  have lt0 := Rd.lt h0
  have hv0 := hval 0 24 v0 rfl rfl
  clear hA0 hval0
  obtain ⟨c0, c1, c2, c3, x, rfl, s0, s1, s2, s3⟩ := arg_sketch hv0 h0
  refine (lawFeeds_calls W s0 s1 s2 s3).mono fun e W' ⟨he, bel⟩ => ?_
  subst he
  exact ⟨_, rfl, _, _, _, [], _, [], hW', trodAll_mk1 (shut_bool Try.underlying4 _), (trodAll_cons_mk (Below.trod laidOut (by kernel_rfl) (of_decide_eq_true (by kernel_rfl)) h0 bel lt0) trodAll_mk0), rfl, bel.frame _, fun h => by cases h⟩
theorem plantFeeds_proved : Rows.PlantFeedsSaid :=
  OpenClaim.holds_of_wide 5 Try.f5 rfl rfl rfl rfl rfl rfl rfl ⟨rfl, rfl, rfl, rfl, rfl⟩ rfl rfl rfl rfl rfl (by kernel_rfl) Try.func5 (by kernel_rfl)
    (of_decide_eq_true (by kernel_rfl)) (by unfold Func.isWrapper; first | (rw [if_pos (by decide +kernel)]; kernel_rfl) | (rw [if_neg (by decide +kernel)]; exact ⟨rfl, rfl⟩))
    (fun os started H enc _ => plantFeeds_lifted os started H enc)
end Go.Proofs.Ytkhaemjoekfhiaa
