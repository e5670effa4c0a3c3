/-
  A part of the proofs of this seat: what some of the program's functions compute, shown by walks through their code. Conditions: the hypotheses that each theorem names. (Its blocks of tactics were laid by a small program.)
-/
import Derived.Test.YtgkejkfodigdiaaE9
set_option linter.unusedSimpArgs false
set_option linter.unusedVariables false
namespace Go.Proofs.Ytgkejkfodigdiaa
open Go Go.Sx Go.RowKit
attribute [local irreducible] WL WC WQ WR St Exit.then Exit.inBlock Exit.noGoto bodyPost roundPost beginK YR RG BM Calls B
set_option maxHeartbeats 4000000 in
theorem table_calls {c : Edit.Cs} (hc : c.ok) {a b : Edit.T} (ha : a.length ≤ 60) (hb : b.length ≤ 60) (w : World) : Calls Try.prog 48 #[str a, str b, costV c] w fun e w' => ∃ v N, e = .returned v ∧
    (∃ b0 ss M, v = .slice (some ⟨b0, 0, none⟩) (a.length + 1) (a.length + 1) ∧ ss.length = a.length + 1 ∧ LL 3 1 encI ss (rowsFrom c a b 0) M ∧ N = ⟨b0, Ce (ss.flatMap encS ++ []) 69, true⟩ :: M ∧ ∀ x ∈ N, x.own = true) ∧ Rep w w' N ∧ ∀ x ∈ N, x.own = true := by
  refine f_enter3 Try.func48 rfl Try.ntmps48 rfl (Rep.start w) ?_
  repeat' (first | (apply o_makeSlice (m := a.length + 1) (c := a.length + 1); infer_instance; infer_instance; exact rfl; exact rfl; exact rfl; exact rfl; decide; omega; exact rfl; intro _) | ((with_reducible first | apply o_move | apply o_assign); exact rfl; exact rfl) | ((with_reducible first | apply o_add | apply o_sub); exact rfl; exact rfl; exact rfl; (constructor <;> omega)) | ((with_reducible apply o_box); exact rfl; exact rfl; exact rfl; intro _) | ((with_reducible apply o_len_t); infer_instance; exact rfl; exact rfl) | ((with_reducible first | apply c_seq | apply c_block | apply c_region | apply c_nil | apply c_ret | apply c_exit | apply c_unroll | apply c_skip)) | ((with_reducible first | apply e_then | apply e_then_ret | apply e_then_exit | apply e_in | apply e_in_ret | apply e_in_same)))
  rename_i bc b0
  simp only [zeros_rows]
  apply c_loop (σ := Int × List SD × List Ent)
    (Fs := fun s => [(8, .int .i64 s.1), (7, .slice (some ⟨b0, 0, none⟩) (a.length + 1) (a.length + 1)), (5, ptr bc), (1, str b), (0, str a)])
    (Ls := fun s => ⟨b0, Ce (s.2.1.flatMap encS ++ []) 69, true⟩ :: ⟨bc, Ce (costC c) 58, true⟩ :: s.2.2)
    (I := fun s => (-1 ≤ s.1 ∧ s.1 ≤ a.length) ∧ s.2.1.length = a.length + 1 ∧ ∀ i : Nat, (i : Int) = s.1 + 1 → LL 3 1 encI (s.2.1.drop i) (rowsFrom c a b i) s.2.2)
    (μ := fun s => (s.1 + 1).toNat) (s0 := ((a.length : Int), List.replicate (a.length + 1) (none, 0, 0), []))
  · refine ⟨by simp only []; omega, by simp, fun i hi => ?_⟩
    obtain rfl : i = a.length + 1 := by simp only [] at hi; omega
    simp only []
    rw [List.drop_of_length_le (by simp)]
    have : rowsFrom c a b (a.length + 1) = [] := by rw [← List.length_eq_zero_iff, rowsFrom_len]; omega
    rw [this]
    exact LL.nil
  · (repeat (first | exact FSub.nil | refine FSub.cons rfl ?_))
  · ((try dsimp only); repeat (first | exact HSub.nil rfl | (apply HSub.take; (repeat (first | exact Rem.hd | apply Rem.tl | apply Rem.right))) | exact HSub.same | apply HSub.drop | (apply HSub.takeL; (focus ((repeat (first | exact RemL.hd | exact RemL.all | exact RemL.nil | apply RemL.tl | apply RemL.right))))) | (apply HSub.dropL; assumption) | (apply HSub.takeA; (focus ((repeat (first | exact RemL.hd | exact RemL.all | exact RemL.nil | apply RemL.tl | apply RemL.right)))); ((focus (repeat (first | exact AO.nil | apply AO.cons | (apply AO.app; assumption)))) <;> done)) | (apply HSub.nilA; ((focus (repeat (first | exact AO.nil | apply AO.cons | (apply AO.app; assumption)))) <;> done))))
  rintro ⟨ii, ss, M⟩ ⟨hi, hsl, hLL⟩
  simp only [] at hi hsl hLL ⊢
  by_cases hlt : 0 ≤ ii
  · obtain ⟨i, rfl⟩ := Int.eq_ofNat_of_zero_le hlt
    have hia : i ≤ a.length := by omega
    have hLL := hLL (i + 1) (by omega)
    obtain ⟨z, hz⟩ : ∃ z, ss[i]? = some z := ⟨_, List.getElem?_eq_getElem (by omega)⟩
    repeat' (first | (apply o_makeSlice (m := b.length + 1) (c := b.length + 1); infer_instance; infer_instance; exact rfl; exact rfl; exact rfl; exact rfl; decide; omega; exact rfl; intro b1) | ((apply o_storeS (enc := encS) (k := 1) (m := i) (o := 0) (xs := ss) (z := z) ((some ⟨b1, 0, none⟩, b.length + 1, b.length + 1) : SD)); infer_instance; exact rfl; exact rfl; ((focus (repeat (first | assumption | exact At.hd | refine At.tl ?_ | (refine At.left ?_; assumption) | refine At.right ?_))) <;> done); exact hz; exact encS_len; omega; exact rfl; exact rfl; (intro u hu; simp at hu; subst hu; rfl); (exact Nat.le_refl _); exact rfl; (repeat (first | exact Upd.hd | apply Upd.tl | apply Upd.right))) | ((with_reducible first | apply o_move | apply o_assign); exact rfl; exact rfl) | ((with_reducible first | apply o_lss | apply o_leq | apply o_geq | apply o_eql | apply o_extract); exact rfl; exact rfl; exact rfl) | ((with_reducible first | apply o_add | apply o_sub); exact rfl; exact rfl; exact rfl; (constructor <;> omega)) | ((with_reducible apply o_len_t); infer_instance; exact rfl; exact rfl) | ((with_reducible apply o_idx); infer_instance; infer_instance; exact rfl; exact rfl; (first | exact rfl | omega); exact rfl; (first | assumption | omega | decide)) | ((with_reducible first | apply c_seq | apply c_block | apply c_region | apply c_nil | apply c_ret | apply c_exit | apply c_unroll | apply c_skip)) | ((with_reducible apply c_cond_t); exact rfl; exact tT_) | ((with_reducible first | apply e_then | apply e_then_ret | apply e_then_exit | apply e_in | apply e_in_ret | apply e_in_same)))
    simp only [zeros_row]
    generalize hss : ss.set i (some ⟨b1, 0, none⟩, b.length + 1, b.length + 1) = ss'
    have hss0 : ss'[i]? = some ((some ⟨b1, 0, none⟩, b.length + 1, b.length + 1) : SD) := by rw [← hss, List.getElem?_set_self (by omega)]
    have hss1 : ∀ t, i < t → ss'[t]? = ss[t]? := fun t ht => by rw [← hss, List.getElem?_set_ne (by omega)]
    have hsl' : ss'.length = a.length + 1 := by rw [← hss, List.length_set]; exact hsl
    have hrow : ∀ (R : List Int) (o2 o3 : Obj) (t : Nat), i ≤ t → t ≤ a.length → ∃ bt cap sl Rt, ss'[t]? = some ((some ⟨bt, 0, none⟩, b.length + 1, cap) : SD) ∧ At (⟨b1, Ce (R.flatMap encI ++ []) 3, true⟩ :: ⟨b0, o2, true⟩ :: ⟨bc, o3, true⟩ :: M) bt (Ce (Rt.flatMap encI ++ sl) 3) ∧ (t = i → Rt = R) ∧ (i < t → Rt = rowOf c a b t) := fun R o2 o3 t h1 h2 => by
      by_cases e : t = i
      · subst e
        exact ⟨b1, _, [], R, hss0, .hd, fun _ => rfl, fun h => by omega⟩
      · obtain ⟨bt, cap, sl, g1, g2⟩ := LL.row hLL (rowsFrom_get c a b (i := i + 1) (t := t) (by omega) h2) (by rw [rowOf_len]; omega)
        refine ⟨bt, cap, sl, rowOf c a b t, ?_, .tl (.tl (.tl g2)), fun h => absurd h e, fun _ => rfl⟩
        rw [hss1 t (by omega)]
        rw [List.getElem?_drop, rowOf_len] at g1
        rw [← g1]; congr 1; omega
    apply c_loop (σ := Int × List Int)
      (Fs := fun s => [(9, .int .i64 s.1), (8, .int .i64 i), (7, .slice (some ⟨b0, 0, none⟩) (a.length + 1) (a.length + 1)), (5, ptr bc), (1, str b), (0, str a)])
      (Ls := fun s => ⟨b1, Ce (s.2.flatMap encI ++ []) 3, true⟩ :: ⟨b0, Ce (ss'.flatMap encS ++ []) 69, true⟩ :: ⟨bc, Ce (costC c) 58, true⟩ :: M)
      (I := fun s => (-1 ≤ s.1 ∧ s.1 ≤ b.length) ∧ s.2.length = b.length + 1 ∧ ∀ j : Nat, j ≤ b.length → s.1 < j → s.2[j]? = some (Edit.D c (a.drop i) (b.drop j)))
      (μ := fun s => (s.1 + 1).toNat) (s0 := ((b.length : Int), List.replicate (b.length + 1) 0))
    · exact ⟨by simp only []; omega, by simp, fun j h1 h2 => by simp only [] at h2; omega⟩
    · (repeat (first | exact FSub.nil | refine FSub.cons rfl ?_))
    · ((try dsimp only); repeat (first | exact HSub.nil rfl | (apply HSub.take; (repeat (first | exact Rem.hd | apply Rem.tl | apply Rem.right))) | exact HSub.same | apply HSub.drop | (apply HSub.takeL; (focus ((repeat (first | exact RemL.hd | exact RemL.all | exact RemL.nil | apply RemL.tl | apply RemL.right))))) | (apply HSub.dropL; assumption) | (apply HSub.takeA; (focus ((repeat (first | exact RemL.hd | exact RemL.all | exact RemL.nil | apply RemL.tl | apply RemL.right)))); ((focus (repeat (first | exact AO.nil | apply AO.cons | (apply AO.app; assumption)))) <;> done)) | (apply HSub.nilA; ((focus (repeat (first | exact AO.nil | apply AO.cons | (apply AO.app; assumption)))) <;> done))))
    rintro ⟨jj, R⟩ ⟨hj, nR, hR⟩
    simp only [] at hj nR hR ⊢
    by_cases hlt2 : 0 ≤ jj
    · obtain ⟨j, rfl⟩ := Int.eq_ofNat_of_zero_le hlt2
      have hjb : j ≤ b.length := by omega
      obtain ⟨zj, hzj⟩ : ∃ z, R[j]? = some z := ⟨_, List.getElem?_eq_getElem (by omega)⟩
      have hb0 : ((i : Int) = a.length) → ((j : Int) = b.length) → Bst c (a.drop i) (b.drop j) 1 0 := fun h1 h2 => by
        rw [List.drop_of_length_le (by omega), List.drop_of_length_le (by omega)]; exact bst_zero
      have hbn : ¬ ((i : Int) = a.length ∧ (j : Int) = b.length) → Bst c (a.drop i) (b.drop j) 1 (-1) := fun h => bst_none (by
        by_cases h1 : i = a.length
        · exact .inr (fun e => h ⟨by omega, by have := congrArg List.length e; simp at this; omega⟩)
        · exact .inl (fun e => by have := congrArg List.length e; simp at this; omega))
      repeat' (first | ((with_reducible first | apply o_move | apply o_assign); exact rfl; exact rfl) | ((with_reducible first | apply o_lss | apply o_leq | apply o_geq | apply o_eql | apply o_extract); exact rfl; exact rfl; exact rfl) | ((with_reducible apply o_pick_t); exact rfl; exact tT_; exact rfl; exact rfl) | ((with_reducible apply o_pick_f); exact rfl; exact fF_; exact rfl; exact rfl) | ((with_reducible apply o_len_t); infer_instance; exact rfl; exact rfl) | ((with_reducible first | apply g_run | apply g_skip_none); exact rfl; exact gG_) | ((with_reducible apply g_skip); exact rfl; exact gG_; exact rfl) | ((with_reducible first | apply c_seq | apply c_block | apply c_region | apply c_nil | apply c_ret | apply c_exit | apply c_unroll | apply c_skip)) | ((with_reducible apply c_cond_t); exact rfl; exact tT_) | ((with_reducible apply c_cond_f); exact rfl; exact fF_) | ((with_reducible first | apply e_then | apply e_then_ret | apply e_then_exit | apply e_in | apply e_in_ret | apply e_in_same)) | ((with_reducible apply c_cond_d); exact rfl; intro hcond; rotate_left; intro hcond; rotate_left) | ((with_reducible apply g_split_d); exact rfl; intro hcond; rotate_left; intro hcond; rotate_left))
      all_goals
        apply c_loop (σ := Nat × Int) (Fs := fun s => [(11, .int .u8 s.1), (10, .int .i64 s.2), (9, .int .i64 j), (8, .int .i64 i), (7, .slice (some ⟨b0, 0, none⟩) (a.length + 1) (a.length + 1)), (5, ptr bc), (1, str b), (0, str a)])
          (Ls := fun _ => ⟨b1, Ce (R.flatMap encI ++ []) 3, true⟩ :: ⟨b0, Ce (ss'.flatMap encS ++ []) 69, true⟩ :: ⟨bc, Ce (costC c) 58, true⟩ :: M)
          (I := fun s => (1 ≤ s.1 ∧ s.1 ≤ 6) ∧ s.2 ≤ 200000 ∧ Bst c (a.drop i) (b.drop j) s.1 s.2) (μ := fun s => 6 - s.1) (s0 := (1, _))
        rotate_left
        · (repeat (first | exact FSub.nil | refine FSub.cons rfl ?_))
        · ((try dsimp only); repeat (first | exact HSub.nil rfl | (apply HSub.take; (repeat (first | exact Rem.hd | apply Rem.tl | apply Rem.right))) | exact HSub.same | apply HSub.drop | (apply HSub.takeL; (focus ((repeat (first | exact RemL.hd | exact RemL.all | exact RemL.nil | apply RemL.tl | apply RemL.right))))) | (apply HSub.dropL; assumption) | (apply HSub.takeA; (focus ((repeat (first | exact RemL.hd | exact RemL.all | exact RemL.nil | apply RemL.tl | apply RemL.right)))); ((focus (repeat (first | exact AO.nil | apply AO.cons | (apply AO.app; assumption)))) <;> done)) | (apply HSub.nilA; ((focus (repeat (first | exact AO.nil | apply AO.cons | (apply AO.app; assumption)))) <;> done))))
        rotate_left
        · first
            | exact ⟨by decide, by decide, hb0 (by omega) (by omega)⟩
            | exact ⟨by decide, by decide, hbn (by omega)⟩
        rintro ⟨k, v⟩ ⟨hk, hv2, hB⟩
        simp only [] at hk hv2 hB ⊢
        have hv1 := bst_small hB
        by_cases hk5 : k ≤ 5
        · have hfit := fun w => fits_any c (k := k) ⟨hk.1, hk5⟩ (a.drop i) (b.drop j) w
          by_cases hok : Edit.ok k (a.drop i) (b.drop j) = true
          · have hol := Edit.ok_len hok
            simp only [List.length_drop] at hol
            have hi2 : i + Edit.tk k ≤ a.length := by omega
            have hj2 : j + Edit.wr k ≤ b.length := by omega
            obtain ⟨bt, cap, sl, Rt, g1, g2, g3, g4⟩ := hrow R (Ce (ss'.flatMap encS ++ []) 69) (Ce (costC c) 58) (i + Edit.tk k) (by omega) hi2
            have hval : Rt[j + Edit.wr k]? = some (Edit.D c (a.drop (i + Edit.tk k)) (b.drop (j + Edit.wr k))) := by
              by_cases e : Edit.tk k = 0
              · rw [g3 (by omega), hR _ hj2 (by omega), e]; rfl
              · rw [g4 (by omega)]; exact rowOf_get c a b _ hj2
            have c1 := (Pat.flat encS_len ss' []).one (u := .slice (some ⟨bt, 0, none⟩) (b.length + 1) cap) g1 rfl
            have c2 := (Pat.flat encI_len Rt sl).one hval rfl
            have hp := Edit.pr_ok hc k
            have hD2 := Edit.D_small hc (a := a.drop (i + Edit.tk k)) (b := b.drop (j + Edit.wr k)) (by simp; omega) (by simp; omega)
            have htake := bst_take hc hB hok
            have hkeep := bst_keep hB
            rw [List.drop_drop, List.drop_drop] at htake hkeep
            by_cases hv : v < 0 ∨ Edit.pr c k + Edit.D c (a.drop (i + Edit.tk k)) (b.drop (j + Edit.wr k)) < v
            · repeat' (first | ((first | ((with_reducible apply o_call_pure (f := 49)); exact rfl) | ((with_reducible apply q_call_pure (f := 49)); exact rfl; kernel_rfl; exact rfl; (focus (repeat (first | (apply SubJ.keep; (decide +kernel)) | apply SubJ.drop | exact SubJ.nil))))); (repeat (first | exact Evs.nil | apply Evs.cons rfl)); exact (fun w _ => hfit w)) | ((with_reducible apply o_idx (m := i + Edit.tk k)); infer_instance; infer_instance; exact rfl; exact rfl; omega; exact rfl; omega) | ((with_reducible apply o_idx (m := j + Edit.wr k)); infer_instance; infer_instance; exact rfl; exact rfl; omega; exact rfl; omega) | ((with_reducible first | apply o_move | apply o_assign); exact rfl; exact rfl) | ((with_reducible apply gdo_load); first | refine wo_load (h := ?_) | refine wo_loadAll (h := ?_) | refine wo_loadC (h := ?_) | refine wo_ldV (h := ?_) | refine wo_ldF (h := ?_)) | ((with_reducible first | apply o_lss | apply o_leq | apply o_geq | apply o_eql | apply o_extract); exact rfl; exact rfl; exact rfl) | ((with_reducible first | apply o_add | apply o_sub); exact rfl; exact rfl; exact rfl; (constructor <;> omega)) | ((with_reducible apply o_pick_t); exact rfl; exact tT_; exact rfl; exact rfl) | ((with_reducible apply o_pick_f); exact rfl; exact fF_; exact rfl; exact rfl) | ((with_reducible apply o_add8); exact rfl; exact rfl; exact rfl; (constructor <;> omega)) | ((with_reducible first | apply g_run | apply g_skip_none); exact rfl; exact gG_) | ((with_reducible apply g_skip); exact rfl; exact gG_; exact rfl) | ((with_reducible first | apply c_seq | apply c_block | apply c_region | apply c_nil | apply c_ret | apply c_exit | apply c_unroll | apply c_skip)) | ((with_reducible apply c_cond_t); exact rfl; exact tT_) | ((with_reducible first | apply e_then | apply e_then_ret | apply e_then_exit | apply e_in | apply e_in_ret | apply e_in_same)) | ((with_reducible apply c_regionD0 (id := 15) []); kernel_rfl; kernel_rfl) | ((with_reducible apply q_nil); try simp only [ents, List.cons_append, List.nil_append]) | ((with_reducible first | apply q_move | apply q_assign); exact rfl; exact rfl) | ((with_reducible apply gdq_load); first | refine wq_load (h := ?_) | refine wq_loadAll (h := ?_) | refine wq_loadC (h := ?_) | refine wq_ldV (h := ?_) | refine wq_ldF (h := ?_)) | ((with_reducible first | apply q_lss | apply q_leq | apply q_geq | apply q_eql | apply q_extract); exact rfl; exact rfl; exact rfl) | ((with_reducible first | apply q_drop_t | apply q_take_t); infer_instance; exact rfl; exact rfl; (first | exact Int.cast_ofNat_Int.symm | exact rfl | omega); (first | assumption | omega | (simp only [List.length_drop, List.length_take, List.length_append]; omega)); exact rfl) | ((with_reducible apply g_split_d); exact rfl; intro hcond; rotate_left; intro hcond; rotate_left))
              all_goals
                first
                  | (exfalso; omega)
                  | (refine l_again (k + 1, Edit.pr c k + Edit.D c (a.drop (i + Edit.tk k)) (b.drop (j + Edit.wr k))) ⟨by simp only []; omega, by simp only []; omega, htake hv⟩ (by simp only []; omega) ?_ ?_
                     · (repeat (first | exact FSub.nil | refine FSub.cons rfl ?_))
                     · ((try dsimp only); repeat (first | exact HSub.nil rfl | (apply HSub.take; (repeat (first | exact Rem.hd | apply Rem.tl | apply Rem.right))) | exact HSub.same | apply HSub.drop | (apply HSub.takeL; (focus ((repeat (first | exact RemL.hd | exact RemL.all | exact RemL.nil | apply RemL.tl | apply RemL.right))))) | (apply HSub.dropL; assumption) | (apply HSub.takeA; (focus ((repeat (first | exact RemL.hd | exact RemL.all | exact RemL.nil | apply RemL.tl | apply RemL.right)))); ((focus (repeat (first | exact AO.nil | apply AO.cons | (apply AO.app; assumption)))) <;> done)) | (apply HSub.nilA; ((focus (repeat (first | exact AO.nil | apply AO.cons | (apply AO.app; assumption)))) <;> done)))))
            · repeat' (first | ((first | ((with_reducible apply o_call_pure (f := 49)); exact rfl) | ((with_reducible apply q_call_pure (f := 49)); exact rfl; kernel_rfl; exact rfl; (focus (repeat (first | (apply SubJ.keep; (decide +kernel)) | apply SubJ.drop | exact SubJ.nil))))); (repeat (first | exact Evs.nil | apply Evs.cons rfl)); exact (fun w _ => hfit w)) | ((with_reducible apply o_idx (m := i + Edit.tk k)); infer_instance; infer_instance; exact rfl; exact rfl; omega; exact rfl; omega) | ((with_reducible apply o_idx (m := j + Edit.wr k)); infer_instance; infer_instance; exact rfl; exact rfl; omega; exact rfl; omega) | ((with_reducible first | apply o_move | apply o_assign); exact rfl; exact rfl) | ((with_reducible apply gdo_load); first | refine wo_load (h := ?_) | refine wo_loadAll (h := ?_) | refine wo_loadC (h := ?_) | refine wo_ldV (h := ?_) | refine wo_ldF (h := ?_)) | ((with_reducible first | apply o_lss | apply o_leq | apply o_geq | apply o_eql | apply o_extract); exact rfl; exact rfl; exact rfl) | ((with_reducible first | apply o_add | apply o_sub); exact rfl; exact rfl; exact rfl; (constructor <;> omega)) | ((with_reducible apply o_pick_t); exact rfl; exact tT_; exact rfl; exact rfl) | ((with_reducible apply o_pick_f); exact rfl; exact fF_; exact rfl; exact rfl) | ((with_reducible apply o_add8); exact rfl; exact rfl; exact rfl; (constructor <;> omega)) | ((with_reducible first | apply g_run | apply g_skip_none); exact rfl; exact gG_) | ((with_reducible first | apply c_seq | apply c_block | apply c_region | apply c_nil | apply c_ret | apply c_exit | apply c_unroll | apply c_skip)) | ((with_reducible apply c_cond_t); exact rfl; exact tT_) | ((with_reducible apply c_cond_f); exact rfl; exact fF_) | ((with_reducible first | apply e_then | apply e_then_ret | apply e_then_exit | apply e_in | apply e_in_ret | apply e_in_same)) | ((with_reducible apply c_regionD0 (id := 15) []); kernel_rfl; kernel_rfl) | ((with_reducible apply q_nil); try simp only [ents, List.cons_append, List.nil_append]) | ((with_reducible first | apply q_move | apply q_assign); exact rfl; exact rfl) | ((with_reducible apply gdq_load); first | refine wq_load (h := ?_) | refine wq_loadAll (h := ?_) | refine wq_loadC (h := ?_) | refine wq_ldV (h := ?_) | refine wq_ldF (h := ?_)) | ((with_reducible first | apply q_lss | apply q_leq | apply q_geq | apply q_eql | apply q_extract); exact rfl; exact rfl; exact rfl) | ((with_reducible first | apply q_drop_t | apply q_take_t); infer_instance; exact rfl; exact rfl; (first | exact Int.cast_ofNat_Int.symm | exact rfl | omega); (first | assumption | omega | (simp only [List.length_drop, List.length_take, List.length_append]; omega)); exact rfl))
              all_goals
                first
                  | (exfalso; omega)
                  | (refine l_again (k + 1, v) ⟨by simp only []; omega, hv2, hkeep (by omega) (by omega)⟩ (by simp only []; omega) ?_ ?_
                     · (repeat (first | exact FSub.nil | refine FSub.cons rfl ?_))
                     · ((try dsimp only); repeat (first | exact HSub.nil rfl | (apply HSub.take; (repeat (first | exact Rem.hd | apply Rem.tl | apply Rem.right))) | exact HSub.same | apply HSub.drop | (apply HSub.takeL; (focus ((repeat (first | exact RemL.hd | exact RemL.all | exact RemL.nil | apply RemL.tl | apply RemL.right))))) | (apply HSub.dropL; assumption) | (apply HSub.takeA; (focus ((repeat (first | exact RemL.hd | exact RemL.all | exact RemL.nil | apply RemL.tl | apply RemL.right)))); ((focus (repeat (first | exact AO.nil | apply AO.cons | (apply AO.app; assumption)))) <;> done)) | (apply HSub.nilA; ((focus (repeat (first | exact AO.nil | apply AO.cons | (apply AO.app; assumption)))) <;> done)))))
          · have hno : Edit.ok k (a.drop i) (b.drop j) = false := by simpa using hok
            repeat' (first | ((first | ((with_reducible apply o_call_pure (f := 49)); exact rfl) | ((with_reducible apply q_call_pure (f := 49)); exact rfl; kernel_rfl; exact rfl; (focus (repeat (first | (apply SubJ.keep; (decide +kernel)) | apply SubJ.drop | exact SubJ.nil))))); (repeat (first | exact Evs.nil | apply Evs.cons rfl)); exact (fun w _ => hfit w)) | ((with_reducible first | apply o_move | apply o_assign); exact rfl; exact rfl) | ((with_reducible first | apply o_lss | apply o_leq | apply o_geq | apply o_eql | apply o_extract); exact rfl; exact rfl; exact rfl) | ((with_reducible apply o_pick_f); exact rfl; exact fF_; exact rfl; exact rfl) | ((with_reducible apply o_add8); exact rfl; exact rfl; exact rfl; (constructor <;> omega)) | ((with_reducible apply g_skip); exact rfl; exact gG_; exact rfl) | ((with_reducible apply g_skip_undef); exact rfl; exact rfl) | ((with_reducible first | apply c_seq | apply c_block | apply c_region | apply c_nil | apply c_ret | apply c_exit | apply c_unroll | apply c_skip)) | ((with_reducible apply c_cond_t); exact rfl; exact tT_) | ((with_reducible apply c_cond_f); exact rfl; exact fF_) | ((with_reducible first | apply e_then | apply e_then_ret | apply e_then_exit | apply e_in | apply e_in_ret | apply e_in_same)) | ((with_reducible apply c_regionD0 (id := 15) []); kernel_rfl; kernel_rfl) | ((with_reducible apply q_nil); try simp only [ents, List.cons_append, List.nil_append]) | ((with_reducible first | apply q_move | apply q_assign); exact rfl; exact rfl) | ((with_reducible apply gdq_load); first | refine wq_load (h := ?_) | refine wq_loadAll (h := ?_) | refine wq_loadC (h := ?_) | refine wq_ldV (h := ?_) | refine wq_ldF (h := ?_)) | ((with_reducible first | apply q_lss | apply q_leq | apply q_geq | apply q_eql | apply q_extract); exact rfl; exact rfl; exact rfl) | ((with_reducible first | apply q_drop_t | apply q_take_t); infer_instance; exact rfl; exact rfl; (first | exact Int.cast_ofNat_Int.symm | exact rfl | omega); (first | assumption | omega | (simp only [List.length_drop, List.length_take, List.length_append]; omega)); exact rfl))
            refine l_again (k + 1, v) ⟨by simp only []; omega, hv2, bst_skip hB hno⟩ (by simp only []; omega) ?_ ?_
            · (repeat (first | exact FSub.nil | refine FSub.cons rfl ?_))
            · ((try dsimp only); repeat (first | exact HSub.nil rfl | (apply HSub.take; (repeat (first | exact Rem.hd | apply Rem.tl | apply Rem.right))) | exact HSub.same | apply HSub.drop | (apply HSub.takeL; (focus ((repeat (first | exact RemL.hd | exact RemL.all | exact RemL.nil | apply RemL.tl | apply RemL.right))))) | (apply HSub.dropL; assumption) | (apply HSub.takeA; (focus ((repeat (first | exact RemL.hd | exact RemL.all | exact RemL.nil | apply RemL.tl | apply RemL.right)))); ((focus (repeat (first | exact AO.nil | apply AO.cons | (apply AO.app; assumption)))) <;> done)) | (apply HSub.nilA; ((focus (repeat (first | exact AO.nil | apply AO.cons | (apply AO.app; assumption)))) <;> done))))
        · obtain rfl : k = 6 := by omega
          obtain rfl := bst_end hB
          have c5 := (Pat.flat encS_len ss' []).one (u := .slice (some ⟨b1, 0, none⟩) (b.length + 1) (b.length + 1)) hss0 rfl
          repeat' (first | ((apply o_storeS (enc := encI) (k := 1) (m := j) (o := 0) (xs := R) (z := zj) (Edit.D c (a.drop i) (b.drop j))); infer_instance; exact rfl; exact rfl; ((focus (repeat (first | assumption | exact At.hd | refine At.tl ?_ | (refine At.left ?_; assumption) | refine At.right ?_))) <;> done); exact hzj; exact encI_len; omega; exact rfl; exact rfl; (intro u hu; simp at hu; subst hu; rfl); (exact Nat.le_refl _); exact rfl; (repeat (first | exact Upd.hd | apply Upd.tl | apply Upd.right))) | ((with_reducible first | apply o_move | apply o_assign); exact rfl; exact rfl) | ((with_reducible apply gdo_load); first | refine wo_load (h := ?_) | refine wo_loadAll (h := ?_) | refine wo_loadC (h := ?_) | refine wo_ldV (h := ?_) | refine wo_ldF (h := ?_)) | ((with_reducible first | apply o_lss | apply o_leq | apply o_geq | apply o_eql | apply o_extract); exact rfl; exact rfl; exact rfl) | ((with_reducible first | apply o_add | apply o_sub); exact rfl; exact rfl; exact rfl; (constructor <;> omega)) | ((with_reducible apply o_idx); infer_instance; infer_instance; exact rfl; exact rfl; (first | exact rfl | omega); exact rfl; (first | assumption | omega | decide)) | ((with_reducible first | apply c_seq | apply c_block | apply c_region | apply c_nil | apply c_ret | apply c_exit | apply c_unroll | apply c_skip)) | ((with_reducible apply c_cond_f); exact rfl; exact fF_) | ((with_reducible first | apply e_then | apply e_then_ret | apply e_then_exit | apply e_in | apply e_in_ret | apply e_in_same)))
          refine l_again ((j : Int) - 1, R.set j (Edit.D c (a.drop i) (b.drop j))) ⟨by simp only []; omega, by simp only [List.length_set]; exact nR, fun j' h1 h2 => ?_⟩ (by simp only []; omega) ?_ ?_
          · simp only [] at h2 ⊢
            by_cases e : j' = j
            · subst e
              rw [List.getElem?_set_self (by omega)]
            · rw [List.getElem?_set_ne (fun h => e h.symm)]
              exact hR j' h1 (by omega)
          · (repeat (first | exact FSub.nil | refine FSub.cons rfl ?_))
          · ((try dsimp only); repeat (first | exact HSub.nil rfl | (apply HSub.take; (repeat (first | exact Rem.hd | apply Rem.tl | apply Rem.right))) | exact HSub.same | apply HSub.drop | (apply HSub.takeL; (focus ((repeat (first | exact RemL.hd | exact RemL.all | exact RemL.nil | apply RemL.tl | apply RemL.right))))) | (apply HSub.dropL; assumption) | (apply HSub.takeA; (focus ((repeat (first | exact RemL.hd | exact RemL.all | exact RemL.nil | apply RemL.tl | apply RemL.right)))); ((focus (repeat (first | exact AO.nil | apply AO.cons | (apply AO.app; assumption)))) <;> done)) | (apply HSub.nilA; ((focus (repeat (first | exact AO.nil | apply AO.cons | (apply AO.app; assumption)))) <;> done))))
    · obtain rfl : R = rowOf c a b i := rowOf_ext nR (fun j h => hR j h (by omega))
      have hOW := OW.row (E := 3) (k := 1) (enc := encI) (b := b1) (cap := b.length + 1) (xs := rowOf c a b i) (s := []) (by rw [List.append_nil, flat_len encI_len, nR]) ⟨by omega, by omega⟩
      rw [nR] at hOW
      repeat' (first | ((with_reducible first | apply o_move | apply o_assign); exact rfl; exact rfl) | ((with_reducible first | apply o_lss | apply o_leq | apply o_geq | apply o_eql | apply o_extract); exact rfl; exact rfl; exact rfl) | ((with_reducible first | apply o_add | apply o_sub); exact rfl; exact rfl; exact rfl; (constructor <;> omega)) | ((with_reducible first | apply c_seq | apply c_block | apply c_region | apply c_nil | apply c_ret | apply c_exit | apply c_unroll | apply c_skip)) | ((with_reducible apply c_cond_f); exact rfl; exact fF_) | ((with_reducible first | apply e_then | apply e_then_ret | apply e_then_exit | apply e_in | apply e_in_ret | apply e_in_same)))
      refine l_again ((i : Int) - 1, ss', ⟨b1, Ce ((rowOf c a b i).flatMap encI ++ []) 3, true⟩ :: M) ⟨by simp only []; omega, hsl', fun i' h1 => ?_⟩ (by simp only []; omega) ?_ ?_
      · obtain rfl : i' = i := by simp only [] at h1; omega
        simp only []
        have e1 : ss'.drop i' = ((some ⟨b1, 0, none⟩, b.length + 1, b.length + 1) : SD) :: ss.drop (i' + 1) := by
          rw [← hss, List.drop_set, if_neg (by omega), Nat.sub_self]
          obtain ⟨x, hx⟩ : ∃ x, ss.drop i' = x :: ss.drop (i' + 1) := ⟨ss[i'], (List.getElem_cons_drop (h := by omega)).symm⟩
          rw [hx]; rfl
        rw [e1, rowsFrom_cons c a b hia]
        exact LL.cons (s := ((some ⟨b1, 0, none⟩, b.length + 1, b.length + 1) : SD)) hOW hLL
      · (repeat (first | exact FSub.nil | refine FSub.cons rfl ?_))
      · ((try dsimp only); repeat (first | exact HSub.nil rfl | (apply HSub.take; (repeat (first | exact Rem.hd | apply Rem.tl | apply Rem.right))) | exact HSub.same | apply HSub.drop | (apply HSub.takeL; (focus ((repeat (first | exact RemL.hd | exact RemL.all | exact RemL.nil | apply RemL.tl | apply RemL.right))))) | (apply HSub.dropL; assumption) | (apply HSub.takeA; (focus ((repeat (first | exact RemL.hd | exact RemL.all | exact RemL.nil | apply RemL.tl | apply RemL.right)))); ((focus (repeat (first | exact AO.nil | apply AO.cons | (apply AO.app; assumption)))) <;> done)) | (apply HSub.nilA; ((focus (repeat (first | exact AO.nil | apply AO.cons | (apply AO.app; assumption)))) <;> done))))
  · repeat' (first | ((with_reducible first | apply o_move | apply o_assign); exact rfl; exact rfl) | ((with_reducible first | apply o_lss | apply o_leq | apply o_geq | apply o_eql | apply o_extract); exact rfl; exact rfl; exact rfl) | ((with_reducible first | apply c_seq | apply c_block | apply c_region | apply c_nil | apply c_ret | apply c_exit | apply c_unroll | apply c_skip)) | ((with_reducible apply c_cond_f); exact rfl; exact fF_) | ((with_reducible first | apply e_then | apply e_then_ret | apply e_then_exit | apply e_in | apply e_in_ret | apply e_in_same)))
    apply r_body; apply res1 Try.results48; exact rV_; intro w' hw
    obtain rfl : ii = -1 := by omega
    have h0 := hLL 0 (by omega)
    rw [List.drop_zero] at h0
    have hown : ∀ x ∈ (⟨b0, Ce (ss.flatMap encS ++ []) 69, true⟩ :: M : List Ent), x.own = true := fun x hx => by
      rcases List.mem_cons.1 hx with rfl | hx
      · rfl
      · exact h0.own x hx
    exact ⟨_, _, rfl, ⟨b0, ss, M, rfl, hsl, h0, rfl, hown⟩, hw.sub (by ((try dsimp only); repeat (first | exact HSub.nil rfl | (apply HSub.take; (repeat (first | exact Rem.hd | apply Rem.tl | apply Rem.right))) | exact HSub.same | apply HSub.drop | (apply HSub.takeL; (focus ((repeat (first | exact RemL.hd | exact RemL.all | exact RemL.nil | apply RemL.tl | apply RemL.right))))) | (apply HSub.dropL; assumption) | (apply HSub.takeA; (focus ((repeat (first | exact RemL.hd | exact RemL.all | exact RemL.nil | apply RemL.tl | apply RemL.right)))); ((focus (repeat (first | exact AO.nil | apply AO.cons | (apply AO.app; assumption)))) <;> done)) | (apply HSub.nilA; ((focus (repeat (first | exact AO.nil | apply AO.cons | (apply AO.app; assumption)))) <;> done))))), hown⟩
end Go.Proofs.Ytgkejkfodigdiaa
