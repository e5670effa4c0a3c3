/-
  A part of the proofs of this seat: what some of the program's functions compute, shown by walks through their code. Conditions: the hypotheses that each theorem names. (Its blocks of tactics were laid by a small program.)
-/
import Derived.Test.YtgkejkfodigdiaaE12
set_option linter.unusedSimpArgs false
set_option linter.unusedVariables false
namespace Go.Proofs.Ytgkejkfodigdiaa
open Go Go.Sx Go.RowKit
attribute [local irreducible] WL WC WQ WR St Exit.then Exit.inBlock Exit.noGoto bodyPost roundPost beginK YR RG BM Calls B
/-! ## Apply, Cost -/
/-- What Apply returns. -/
def applyR (s : Edit.T) (l : List Edit.Op) : Value :=
  if 60 < s.length ∨ 120 < l.length then .tuple #[str [], .int .i64 3] else match Edit.apply s l with
    | some t => .tuple #[str t, .int .i64 0]
    | none => .tuple #[str [], .int .i64 60]
theorem op_split {o : Edit.Op} (h : o.u8) : ∃ (k : Nat) (y : UInt8), o = ⟨(k : Int), (y.toNat : Int)⟩ := by
  obtain ⟨kd, by'⟩ := o
  unfold Edit.Op.u8 at h
  simp only [] at h
  refine ⟨kd.toNat, UInt8.ofNat by'.toNat, ?_⟩
  rw [Edit.ofNat_toNat h.2]
  congr 1; omega
theorem stepA_len {k : Nat} {y : UInt8} {s s' app : Edit.T} (h : stepA k y s = some (s', app)) : app.length ≤ 2 := by
  cases s with
  | nil =>
    simp only [stepA] at h
    split at h
    · cases h; simp
    · cases h
  | cons x s =>
    simp only [stepA] at h
    split at h
    · split at h
      · cases h; simp
      · cases h
    split at h
    · split at h
      · cases h; simp
      · cases h
    split at h
    · cases s with
      | nil => cases h
      | cons x' s =>
        simp only [] at h
        split at h
        · cases h; simp
        · cases h
    split at h
    · split at h
      · cases h; simp
      · cases h
    split at h
    · cases h; simp
    · cases h
set_option maxHeartbeats 2000000 in
theorem apply_calls {lv : Value} {s0 : Edit.T} {l : List Edit.Op} (w : World) (hl : SV w 2 opC lv l) (hu : ∀ o ∈ l, o.u8) (hs1 : s0.length ≤ 1000000) : Calls Try.prog 21 #[str s0, lv] w fun e w' => e = .returned (applyR s0 l) ∧ Below w.heap.size w w' := by
  obtain ⟨a0, ca, rfl, hca, hop⟩ := hl.open
  by_cases hlong : 60 < s0.length ∨ 120 < l.length
  · unfold applyR
    rw [if_pos hlong]
    refine f_enter2 Try.func21 rfl Try.ntmps21 rfl (Rep.start w) ?_
    repeat' (first | ((with_reducible first | apply o_move | apply o_assign | apply o_faddr0 | apply o_not_d | apply o_conv); exact rfl; exact rfl) | ((with_reducible apply gdo_load); first | refine wo_load (h := ?_) | refine wo_loadAll (h := ?_) | refine wo_loadC (h := ?_) | refine wo_ldV (h := ?_) | refine wo_ldF (h := ?_)) | ((with_reducible first | apply o_lss | apply o_gtr | apply o_neq | apply o_extract); exact rfl; exact rfl; exact rfl) | ((with_reducible apply o_pick_t); exact rfl; exact tT_; exact rfl; exact rfl) | ((with_reducible apply o_pick_f); exact rfl; exact fF_; exact rfl; exact rfl) | ((with_reducible apply o_box); exact rfl; exact rfl; exact rfl; intro _) | ((with_reducible apply o_len_t); infer_instance; exact rfl; exact rfl) | ((with_reducible apply o_len); infer_instance; exact rfl; exact rfl) | ((with_reducible first | apply g_run | apply g_skip_none); exact rfl; exact gG_) | ((with_reducible apply g_skip); exact rfl; exact gG_; exact rfl) | ((with_reducible first | apply c_seq | apply c_block | apply c_region | apply c_nil | apply c_ret | apply c_exit | apply c_unroll | apply c_skip)) | ((with_reducible apply c_cond_t); exact rfl; exact tT_) | ((with_reducible first | apply e_then | apply e_then_ret | apply e_then_exit | apply e_in | apply e_in_ret | apply e_in_same)) | ((with_reducible apply g_split_d); exact rfl; intro hcond; rotate_left; intro hcond; rotate_left))
    all_goals first
      | (exfalso; omega)
      | (apply r_body; apply res2 Try.results21; exact rV_; exact rV_; intro w' hw; exact ⟨rfl, hw.below (by simp)⟩)
  unfold applyR
  rw [if_neg hlong]
  refine f_enter2 Try.func21 rfl Try.ntmps21 rfl (Rep.start w) ?_
  repeat' (first | ((with_reducible apply o_insNew); infer_instance; infer_instance; exact rfl; exact rfl; exact rfl; ((focus (repeat (first | assumption | exact At.hd | refine At.tl ?_ | (refine At.left ?_; assumption) | refine At.right ?_))) <;> done); (constructor <;> simp [MapKept.IsKey]); exact rfl; (simp); (repeat (first | exact Upd.hd | apply Upd.tl | apply Upd.right))) | ((with_reducible first | apply o_move | apply o_assign | apply o_faddr0 | apply o_not_d | apply o_conv); exact rfl; exact rfl) | ((with_reducible apply gdo_load); first | refine wo_load (h := ?_) | refine wo_loadAll (h := ?_) | refine wo_loadC (h := ?_) | refine wo_ldV (h := ?_) | refine wo_ldF (h := ?_)) | ((with_reducible first | apply o_lss | apply o_gtr | apply o_neq | apply o_extract); exact rfl; exact rfl; exact rfl) | ((with_reducible apply o_pick_f); exact rfl; exact fF_; exact rfl; exact rfl) | ((with_reducible first | apply o_alloc | apply o_makeMap0); exact rfl; intro _) | ((with_reducible apply o_box); exact rfl; exact rfl; exact rfl; intro _) | ((with_reducible apply o_len_t); infer_instance; exact rfl; exact rfl) | ((with_reducible apply o_len); infer_instance; exact rfl; exact rfl) | ((with_reducible apply gdo_makeFunc); refine wo_func (h := ?_)) | ((with_reducible first | apply g_run | apply g_skip_none); exact rfl; exact gG_) | ((with_reducible first | apply c_seq | apply c_block | apply c_region | apply c_nil | apply c_ret | apply c_exit | apply c_unroll | apply c_skip)) | ((with_reducible apply c_cond_f); exact rfl; exact fF_) | ((with_reducible first | apply e_then | apply e_then_ret | apply e_then_exit | apply e_in | apply e_in_ret | apply e_in_same)))
  rename_i bs bo bm
  apply c_loop (σ := Nat × Edit.T × Edit.T × (Option Addr × Nat) × List Ent)
    (Fs := fun t => [(29, .int .i64 t.1), (28, .int .i64 l.length), (27, .slice a0 l.length ca), (7, .map (some bm)), (6, ptr bo), (2, ptr bs)])
    (Ls := fun t => ⟨bs, Ce [str t.2.1] 9, true⟩ :: ⟨bo, Ce [.slice t.2.2.2.1.1 t.2.2.1.length t.2.2.2.1.2] 46, true⟩ :: (t.2.2.2.2 ++ [⟨bm, MO (amap bs bo), true⟩]))
    (I := fun t => t.1 ≤ l.length ∧ OW 5 1 encB (.slice t.2.2.2.1.1 t.2.2.1.length t.2.2.2.1.2) t.2.2.1 t.2.2.2.2 ∧ t.2.2.1.length ≤ 2 * t.1 ∧ Edit.apply s0 l = (Edit.apply t.2.1 (l.drop t.1)).map (t.2.2.1 ++ ·))
    (μ := fun t => l.length - t.1) (s0 := (0, s0, [], (none, 0), []))
  · refine ⟨Nat.zero_le _, OW.nil, Nat.le_refl _, ?_⟩
    simp only [List.drop_zero, List.nil_append]
    cases Edit.apply s0 l <;> rfl
  · (repeat (first | exact FSub.nil | refine FSub.cons rfl ?_))
  · ((try dsimp only); repeat (first | exact HSub.nil rfl | (apply HSub.take; (repeat (first | exact Rem.hd | apply Rem.tl | apply Rem.right))) | exact HSub.same | apply HSub.drop | (apply HSub.takeL; (focus ((repeat (first | exact RemL.hd | exact RemL.all | exact RemL.nil | apply RemL.tl | apply RemL.right))))) | (apply HSub.dropL; assumption) | (apply HSub.takeA; (focus ((repeat (first | exact RemL.hd | exact RemL.all | exact RemL.nil | apply RemL.tl | apply RemL.right)))); ((focus (repeat (first | exact AO.nil | apply AO.cons | (apply AO.app; assumption)))) <;> done)) | (apply HSub.nilA; ((focus (repeat (first | exact AO.nil | apply AO.cons | (apply AO.app; assumption)))) <;> done))))
  rintro ⟨i, s, out, ⟨ad, capd⟩, N⟩ ⟨hi, hO, hol, hap⟩
  simp only [] at hi hO hol hap ⊢
  by_cases hlt : i < l.length
  · obtain ⟨o, ho⟩ : ∃ o, l[i]? = some o := ⟨_, List.getElem?_eq_getElem hlt⟩
    obtain ⟨b, off, c, e, fz, rfl, hk, hp⟩ := hop (by omega)
    have h1 := hp.get ho
    obtain ⟨k, y, rfl⟩ := op_split (hu _ (List.mem_of_getElem? ho))
    have hdr : l.drop i = ⟨(k : Int), (y.toNat : Int)⟩ :: l.drop (i + 1) := by
      rw [← List.getElem_cons_drop (h := hlt), (List.getElem?_eq_some_iff.1 ho).2]
    rw [hdr] at hap
    have hN := hO.own
    by_cases hk5 : 1 ≤ k ∧ k ≤ 5
    · rw [apply_stepA hk5] at hap
      obtain ⟨f, fn, caps, hTC, hlook, hcall⟩ := ap_any bs bo hk5
      cases hst : stepA k y s with
      | none =>
        rw [hst] at hap
        have hfr : ∀ (L0 : List Ent) w', Rep w w' ((⟨bs, Ce [str s] 9, true⟩ :: ⟨bo, Ce [.slice ad out.length capd] 46, true⟩ :: N) ++ L0) → Calls Try.prog f (#[.int .u8 (y.toNat : Int)] ++ caps) w' fun e w'' => ∃ v G', e = .returned v ∧ (v = .bool false ∧ G' = (⟨bs, Ce [str s] 9, true⟩ :: ⟨bo, Ce [.slice ad out.length capd] 46, true⟩ :: N)) ∧ Rep w w'' (G' ++ L0) := fun L0 w' hw' =>
          (hcall (y := y) hw' hO (by omega)).mono fun e w'' hp => by
            rw [hst] at hp
            exact ⟨_, _, hp.1, ⟨rfl, rfl⟩, hp.2⟩
        repeat' (first | ((with_reducible apply o_lookT_in (j := k - 1)); infer_instance; infer_instance; exact rfl; exact rfl; (first | exact Kn.old (by assumption) rfl | (apply Kn.oldA; assumption; ((focus (repeat (first | exact AO.nil | apply AO.cons | (apply AO.app; assumption)))) <;> done)) | (apply Kn.apart; assumption; ((focus (repeat (first | exact Apart.nil | apply Apart.own | (apply Apart.given; assumption) | (apply Apart.app; assumption)))) <;> done)) | (refine Kn.at ?_; ((focus (repeat (first | assumption | exact At.hd | refine At.tl ?_ | (refine At.left ?_; assumption) | refine At.right ?_))) <;> done))); exact amap_mk bs bo; exact rfl; exact hlook; exact rfl) | ((apply o_call_frame (f := f) (G := ⟨bs, Ce [str s] 9, true⟩ :: ⟨bo, Ce [.slice ad out.length capd] 46, true⟩ :: N) (Φ := fun v G' => v = .bool false ∧ G' = (⟨bs, Ce [str s] 9, true⟩ :: ⟨bo, Ce [.slice ad out.length capd] 46, true⟩ :: N))); exact rfl; exact rfl; (repeat (first | exact Evs.nil | apply Evs.cons rfl)); (exact RemL.tl (RemL.hd (N := ⟨bs, Ce [str s] 9, true⟩ :: ⟨bo, Ce [.slice ad out.length capd] 46, true⟩ :: N))); (exact fun w hw => hfr _ w hw); rintro v G' ⟨rfl, rfl⟩) | ((with_reducible first | apply o_move | apply o_assign | apply o_faddr0 | apply o_not_d | apply o_conv); exact rfl; exact rfl) | ((with_reducible apply gdo_load); first | refine wo_load (h := ?_) | refine wo_loadAll (h := ?_) | refine wo_loadC (h := ?_) | refine wo_ldV (h := ?_) | refine wo_ldF (h := ?_)) | ((with_reducible first | apply o_lss | apply o_gtr | apply o_neq | apply o_extract); exact rfl; exact rfl; exact rfl) | ((with_reducible apply o_not); exact rfl; exact rfl) | ((with_reducible apply o_pick_f); exact rfl; exact fF_; exact rfl; exact rfl) | ((with_reducible first | apply o_alloc | apply o_makeMap0); exact rfl; intro _) | ((with_reducible apply gdo_store); first | refine wo_store1 (h := ?_) | refine wo_storeA (h := ?_)) | ((with_reducible apply o_idx); infer_instance; infer_instance; exact rfl; exact rfl; (first | exact rfl | omega); exact rfl; (first | assumption | omega | decide)) | ((with_reducible first | apply g_run | apply g_skip_none); exact rfl; exact gG_) | ((with_reducible first | apply c_seq | apply c_block | apply c_region | apply c_nil | apply c_ret | apply c_exit | apply c_unroll | apply c_skip)) | ((with_reducible apply c_cond_t); exact rfl; exact tT_) | ((with_reducible first | apply e_then | apply e_then_ret | apply e_then_exit | apply e_in | apply e_in_ret | apply e_in_same)))
        apply r_body; apply res2 Try.results21; exact rV_; exact rV_; intro w' hw
        rw [hap]
        exact ⟨rfl, hw.below (fun x hx => by
          simp only [List.cons_append, List.mem_cons, List.mem_append, List.not_mem_nil, or_false] at hx
          rcases hx with rfl | rfl | hx | rfl | rfl
          · rfl
          · rfl
          · exact hN x hx
          · rfl
          · rfl)⟩
      | some st =>
        obtain ⟨s', app⟩ := st
        rw [hst] at hap
        have hal := stepA_len hst
        have hfr : ∀ (L0 : List Ent) w', Rep w w' ((⟨bs, Ce [str s] 9, true⟩ :: ⟨bo, Ce [.slice ad out.length capd] 46, true⟩ :: N) ++ L0) → Calls Try.prog f (#[.int .u8 (y.toNat : Int)] ++ caps) w' fun e w'' => ∃ v G', e = .returned v ∧ (v = .bool true ∧ ∃ a' cap' N', OW 5 1 encB (.slice a' (out ++ app).length cap') (out ++ app) N' ∧ G' = (⟨bs, Ce [str s'] 9, true⟩ :: ⟨bo, Ce [.slice a' (out ++ app).length cap'] 46, true⟩ :: N')) ∧ Rep w w'' (G' ++ L0) := fun L0 w' hw' =>
          (hcall (y := y) hw' hO (by omega)).mono fun e w'' hp => by
            rw [hst] at hp
            obtain ⟨g1, a', cap', N', g2, g3⟩ := hp
            exact ⟨_, _, g1, ⟨rfl, a', cap', N', g2, rfl⟩, g3⟩
        repeat' (first | ((with_reducible apply o_lookT_in (j := k - 1)); infer_instance; infer_instance; exact rfl; exact rfl; (first | exact Kn.old (by assumption) rfl | (apply Kn.oldA; assumption; ((focus (repeat (first | exact AO.nil | apply AO.cons | (apply AO.app; assumption)))) <;> done)) | (apply Kn.apart; assumption; ((focus (repeat (first | exact Apart.nil | apply Apart.own | (apply Apart.given; assumption) | (apply Apart.app; assumption)))) <;> done)) | (refine Kn.at ?_; ((focus (repeat (first | assumption | exact At.hd | refine At.tl ?_ | (refine At.left ?_; assumption) | refine At.right ?_))) <;> done))); exact amap_mk bs bo; exact rfl; exact hlook; exact rfl) | ((apply o_call_frame (f := f) (G := ⟨bs, Ce [str s] 9, true⟩ :: ⟨bo, Ce [.slice ad out.length capd] 46, true⟩ :: N) (Φ := fun v G' => v = .bool true ∧ ∃ a' cap' N', OW 5 1 encB (.slice a' (out ++ app).length cap') (out ++ app) N' ∧ G' = (⟨bs, Ce [str s'] 9, true⟩ :: ⟨bo, Ce [.slice a' (out ++ app).length cap'] 46, true⟩ :: N'))); exact rfl; exact rfl; (repeat (first | exact Evs.nil | apply Evs.cons rfl)); (exact RemL.tl (RemL.hd (N := ⟨bs, Ce [str s] 9, true⟩ :: ⟨bo, Ce [.slice ad out.length capd] 46, true⟩ :: N))); (exact fun w hw => hfr _ w hw); rintro v G' ⟨rfl, a', cap', N', hO', rfl⟩) | ((with_reducible first | apply o_move | apply o_assign | apply o_faddr0 | apply o_not_d | apply o_conv); exact rfl; exact rfl) | ((with_reducible apply gdo_load); first | refine wo_load (h := ?_) | refine wo_loadAll (h := ?_) | refine wo_loadC (h := ?_) | refine wo_ldV (h := ?_) | refine wo_ldF (h := ?_)) | ((with_reducible first | apply o_lss | apply o_gtr | apply o_neq | apply o_extract); exact rfl; exact rfl; exact rfl) | ((with_reducible apply o_not); exact rfl; exact rfl) | ((with_reducible apply o_add); exact rfl; exact rfl; exact rfl; (constructor <;> omega)) | ((with_reducible apply o_pick_f); exact rfl; exact fF_; exact rfl; exact rfl) | ((with_reducible first | apply o_alloc | apply o_makeMap0); exact rfl; intro _) | ((with_reducible apply gdo_store); first | refine wo_store1 (h := ?_) | refine wo_storeA (h := ?_)) | ((with_reducible apply o_idx); infer_instance; infer_instance; exact rfl; exact rfl; (first | exact rfl | omega); exact rfl; (first | assumption | omega | decide)) | ((with_reducible first | apply g_run | apply g_skip_none); exact rfl; exact gG_) | ((with_reducible first | apply c_seq | apply c_block | apply c_region | apply c_nil | apply c_ret | apply c_exit | apply c_unroll | apply c_skip)) | ((with_reducible apply c_cond_t); exact rfl; exact tT_) | ((with_reducible apply c_cond_f); exact rfl; exact fF_) | ((with_reducible first | apply e_then | apply e_then_ret | apply e_then_exit | apply e_in | apply e_in_ret | apply e_in_same)))
        refine l_again (i + 1, s', out ++ app, (a', cap'), N') ⟨by simp only []; omega, hO', by simp only [List.length_append]; omega, ?_⟩ (by simp only []; omega) ?_ ?_
        · simp only []
          rw [hap]
          simp only []
          cases Edit.apply s' (l.drop (i + 1)) <;> simp
        · (repeat (first | exact FSub.nil | refine FSub.cons rfl ?_))
        · simp only [List.cons_append]
          ((try dsimp only); repeat (first | exact HSub.nil rfl | (apply HSub.take; (repeat (first | exact Rem.hd | apply Rem.tl | apply Rem.right))) | exact HSub.same | apply HSub.drop | (apply HSub.takeL; (focus ((repeat (first | exact RemL.hd | exact RemL.all | exact RemL.nil | apply RemL.tl | apply RemL.right))))) | (apply HSub.dropL; assumption) | (apply HSub.takeA; (focus ((repeat (first | exact RemL.hd | exact RemL.all | exact RemL.nil | apply RemL.tl | apply RemL.right)))); ((focus (repeat (first | exact AO.nil | apply AO.cons | (apply AO.app; assumption)))) <;> done)) | (apply HSub.nilA; ((focus (repeat (first | exact AO.nil | apply AO.cons | (apply AO.app; assumption)))) <;> done))))
    · have hno : ∀ p ∈ amap bs bo, p.1 ≠ .int .u8 (k : Int) := by simp [amap]; omega
      rw [apply_bad (by omega)] at hap
      repeat' (first | ((with_reducible apply o_lookT_out); infer_instance; infer_instance; infer_instance; exact rfl; exact rfl; (first | exact Kn.old (by assumption) rfl | (apply Kn.oldA; assumption; ((focus (repeat (first | exact AO.nil | apply AO.cons | (apply AO.app; assumption)))) <;> done)) | (apply Kn.apart; assumption; ((focus (repeat (first | exact Apart.nil | apply Apart.own | (apply Apart.given; assumption) | (apply Apart.app; assumption)))) <;> done)) | (refine Kn.at ?_; ((focus (repeat (first | assumption | exact At.hd | refine At.tl ?_ | (refine At.left ?_; assumption) | refine At.right ?_))) <;> done))); exact amap_mk bs bo; exact rfl; exact hno; exact rfl) | ((with_reducible first | apply o_move | apply o_assign | apply o_faddr0 | apply o_not_d | apply o_conv); exact rfl; exact rfl) | ((with_reducible apply gdo_load); first | refine wo_load (h := ?_) | refine wo_loadAll (h := ?_) | refine wo_loadC (h := ?_) | refine wo_ldV (h := ?_) | refine wo_ldF (h := ?_)) | ((with_reducible first | apply o_lss | apply o_gtr | apply o_neq | apply o_extract); exact rfl; exact rfl; exact rfl) | ((with_reducible apply o_not); exact rfl; exact rfl) | ((with_reducible apply o_pick_t); exact rfl; exact tT_; exact rfl; exact rfl) | ((with_reducible first | apply o_alloc | apply o_makeMap0); exact rfl; intro _) | ((with_reducible apply gdo_store); first | refine wo_store1 (h := ?_) | refine wo_storeA (h := ?_)) | ((with_reducible apply o_idx); infer_instance; infer_instance; exact rfl; exact rfl; (first | exact rfl | omega); exact rfl; (first | assumption | omega | decide)) | ((with_reducible apply g_skip); exact rfl; exact gG_; exact rfl) | ((with_reducible first | apply c_seq | apply c_block | apply c_region | apply c_nil | apply c_ret | apply c_exit | apply c_unroll | apply c_skip)) | ((with_reducible apply c_cond_t); exact rfl; exact tT_) | ((with_reducible first | apply e_then | apply e_then_ret | apply e_then_exit | apply e_in | apply e_in_ret | apply e_in_same)))
      apply r_body; apply res2 Try.results21; exact rV_; exact rV_; intro w' hw
      rw [hap]
      exact ⟨rfl, hw.below (fun x hx => by
          simp only [List.cons_append, List.mem_cons, List.mem_append, List.not_mem_nil, or_false] at hx
          rcases hx with rfl | rfl | rfl | hx | rfl
          · rfl
          · rfl
          · rfl
          · exact hN x hx
          · rfl)⟩
  · have hil : i = l.length := by omega
    rw [hil, List.drop_length] at hap
    have hN := hO.own
    have hbel : ∀ x ∈ (⟨bs, Ce [str s] 9, true⟩ :: ⟨bo, Ce [.slice ad out.length capd] 46, true⟩ :: (N ++ [⟨bm, MO (amap bs bo), true⟩]) : List Ent), x.own = true := fun x hx => by
      simp only [List.mem_cons, List.mem_append, List.not_mem_nil, or_false] at hx
      rcases hx with rfl | rfl | hx | rfl
      · rfl
      · rfl
      · exact hN x hx
      · rfl
    cases s with
    | nil =>
      repeat' (first | (apply o_str_b (l := out); infer_instance; infer_instance; infer_instance; exact rfl; (exact fun w hw => hO.sv encB_len (by (repeat (first | exact RemL.hd | exact RemL.all | exact RemL.nil | apply RemL.tl | apply RemL.right))) hw); exact rfl) | ((with_reducible first | apply o_move | apply o_assign | apply o_faddr0 | apply o_not_d | apply o_conv); exact rfl; exact rfl) | ((with_reducible apply gdo_load); first | refine wo_load (h := ?_) | refine wo_loadAll (h := ?_) | refine wo_loadC (h := ?_) | refine wo_ldV (h := ?_) | refine wo_ldF (h := ?_)) | ((with_reducible first | apply o_lss | apply o_gtr | apply o_neq | apply o_extract); exact rfl; exact rfl; exact rfl) | ((with_reducible apply o_neq_t); infer_instance; exact rfl; exact rfl; exact rfl) | ((with_reducible first | apply c_seq | apply c_block | apply c_region | apply c_nil | apply c_ret | apply c_exit | apply c_unroll | apply c_skip)) | ((with_reducible apply c_cond_f); exact rfl; exact fF_) | ((with_reducible first | apply e_then | apply e_then_ret | apply e_then_exit | apply e_in | apply e_in_ret | apply e_in_same)))
      apply r_body; apply res2 Try.results21; exact rV_; exact rV_; intro w' hw
      rw [hap]
      exact ⟨by simp [Edit.apply], hw.below hbel⟩
    | cons x s =>
      repeat' (first | ((with_reducible first | apply o_move | apply o_assign | apply o_faddr0 | apply o_not_d | apply o_conv); exact rfl; exact rfl) | ((with_reducible apply gdo_load); first | refine wo_load (h := ?_) | refine wo_loadAll (h := ?_) | refine wo_loadC (h := ?_) | refine wo_ldV (h := ?_) | refine wo_ldF (h := ?_)) | ((with_reducible first | apply o_lss | apply o_gtr | apply o_neq | apply o_extract); exact rfl; exact rfl; exact rfl) | ((with_reducible apply o_neq_t); infer_instance; exact rfl; exact rfl; exact rfl) | ((with_reducible first | apply c_seq | apply c_block | apply c_region | apply c_nil | apply c_ret | apply c_exit | apply c_unroll | apply c_skip)) | ((with_reducible apply c_cond_t); exact rfl; exact tT_) | ((with_reducible apply c_cond_f); exact rfl; exact fF_) | ((with_reducible first | apply e_then | apply e_then_ret | apply e_then_exit | apply e_in | apply e_in_ret | apply e_in_same)))
      apply r_body; apply res2 Try.results21; exact rV_; exact rV_; intro w' hw
      rw [hap]
      exact ⟨rfl, hw.below hbel⟩
/-- What Cost returns. -/
noncomputable def costR (c : Edit.Cs) (l : List Edit.Op) : Value := by
  classical exact if c.ok then if 120 < l.length then .tuple #[.int .i64 0, .int .i64 3] else match Edit.cost c l with
    | some n => .tuple #[.int .i64 n, .int .i64 0]
    | none => .tuple #[.int .i64 0, .int .i64 60]
  else .tuple #[.int .i64 0, .int .i64 2]
end Go.Proofs.Ytgkejkfodigdiaa
