/-
  A part of the proofs of this seat: what some of the program's functions compute, shown by walks through their code. Conditions: the hypotheses that each theorem names. (Its blocks of tactics were laid by a small program.)
-/
import Derived.Test.YtgkejkfodigdiaaE13
set_option linter.unusedSimpArgs false
set_option linter.unusedVariables false
namespace Go.Proofs.Ytgkejkfodigdiaa
open Go Go.Sx Go.RowKit
attribute [local irreducible] WL WC WQ WR St Exit.then Exit.inBlock Exit.noGoto bodyPost roundPost beginK YR RG BM Calls B
/-! ## the law's helpers -/
theorem ones_calls (w : World) : Calls Try.prog 17 #[] w fun e w' => e = .returned (costV Edit.ones) ∧ Below w.heap.size w w' := by
  refine f_enter0 Try.func17 rfl Try.ntmps17 rfl (Rep.start w) ?_
  repeat' (first | ((with_reducible apply o_alloc); exact rfl; intro _) | ((with_reducible apply gdo_store); first | refine wo_store1 (h := ?_) | refine wo_storeA (h := ?_)) | ((with_reducible apply gdo_build); first | refine wo_build (h := ?_) | refine wo_buildA (h := ?_)) | ((with_reducible first | apply c_seq | apply c_block | apply c_region | apply c_nil | apply c_ret | apply c_exit | apply c_unroll | apply c_skip)) | ((with_reducible first | apply e_then | apply e_then_ret | apply e_then_exit | apply e_in | apply e_in_ret | apply e_in_same)))
  apply r_body; apply res1 Try.results17; exact rV_; intro w' hw
  exact ⟨rfl, hw.below (by simp)⟩
theorem costs_calls (c : Edit.Cs) (w : World) : Calls Try.prog 27 #[costV c] w fun e w' => e = .returned (costV c) ∧ Below w.heap.size w w' := by
  refine f_enter1 Try.func27 rfl Try.ntmps27 rfl (Rep.start w) ?_
  repeat' (first | ((with_reducible apply o_faddr0); exact rfl; exact rfl) | ((with_reducible apply gdo_load); first | refine wo_load (h := ?_) | refine wo_loadAll (h := ?_) | refine wo_loadC (h := ?_) | refine wo_ldV (h := ?_) | refine wo_ldF (h := ?_)) | ((with_reducible apply o_alloc); exact rfl; intro _) | ((with_reducible apply o_box); exact rfl; exact rfl; exact rfl; intro _) | ((with_reducible apply gdo_store); first | refine wo_store1 (h := ?_) | refine wo_storeA (h := ?_)) | ((with_reducible apply gdo_build); first | refine wo_build (h := ?_) | refine wo_buildA (h := ?_)) | ((with_reducible first | apply c_seq | apply c_block | apply c_region | apply c_nil | apply c_ret | apply c_exit | apply c_unroll | apply c_skip)) | ((with_reducible first | apply e_then | apply e_then_ret | apply e_then_exit | apply e_in | apply e_in_ret | apply e_in_same)))
  apply r_body; apply res1 Try.results27; exact rV_; intro w' hw
  exact ⟨rfl, hw.below (by simp)⟩
set_option maxHeartbeats 1000000 in
theorem sameOps_yes {va vb : Value} {xs : List Edit.Op} (w : World) (ha : SV w 2 opC va xs) (hb : SV w 2 opC vb xs) : Calls Try.prog 26 #[va, vb] w fun e w' => e = .returned (.bool true) ∧ Below w.heap.size w w' := by
  obtain ⟨a0, ca, rfl, hca, ha⟩ := ha.open
  obtain ⟨b0, cb, rfl, hcb, hb⟩ := hb.open
  refine f_enter2 Try.func26 rfl Try.ntmps26 rfl (Rep.start w) ?_
  repeat' (first | ((with_reducible first | apply o_move | apply o_assign); exact rfl; exact rfl) | ((with_reducible first | apply o_lss | apply o_neq); exact rfl; exact rfl; exact rfl) | ((with_reducible apply o_len); infer_instance; exact rfl; exact rfl) | ((with_reducible first | apply c_seq | apply c_block | apply c_region | apply c_nil | apply c_ret | apply c_exit | apply c_unroll | apply c_skip)) | ((with_reducible apply c_cond_f); exact rfl; exact fF_) | ((with_reducible first | apply e_then | apply e_then_ret | apply e_then_exit | apply e_in | apply e_in_ret | apply e_in_same)))
  apply c_loop (σ := Nat) (Fs := fun i => [(5, .int .i64 i), (0, .slice a0 xs.length ca), (1, .slice b0 xs.length cb), (4, .bool false)])
    (Ls := fun i => []) (I := fun i => i ≤ xs.length) (μ := fun i => xs.length - i) (s0 := 0)
  · exact Nat.zero_le _
  · (repeat (first | exact FSub.nil | refine FSub.cons rfl ?_))
  · ((try dsimp only); repeat (first | exact HSub.nil rfl | (apply HSub.take; (repeat (first | exact Rem.hd | apply Rem.tl | apply Rem.right))) | exact HSub.same | apply HSub.drop | (apply HSub.takeL; (focus ((repeat (first | exact RemL.hd | exact RemL.all | exact RemL.nil | apply RemL.tl | apply RemL.right))))) | (apply HSub.dropL; assumption) | (apply HSub.takeA; (focus ((repeat (first | exact RemL.hd | exact RemL.all | exact RemL.nil | apply RemL.tl | apply RemL.right)))); ((focus (repeat (first | exact AO.nil | apply AO.cons | (apply AO.app; assumption)))) <;> done)) | (apply HSub.nilA; ((focus (repeat (first | exact AO.nil | apply AO.cons | (apply AO.app; assumption)))) <;> done))))
  rintro i hi
  by_cases hlt : i < xs.length
  · obtain ⟨x, hx⟩ : ∃ x, xs[i]? = some x := ⟨_, List.getElem?_eq_getElem hlt⟩
    obtain ⟨b, off, c, e, fz, rfl, hk, hp⟩ := ha (by omega)
    obtain ⟨b', off', c', e', fz', rfl, hk', hp'⟩ := hb (by omega)
    have h1 := hp.get hx
    have h2 := hp'.get hx
    have hself : x.kind = x.kind ∧ x.byte = x.byte := ⟨rfl, rfl⟩
    repeat' (first | ((with_reducible first | apply o_move | apply o_assign); exact rfl; exact rfl) | ((with_reducible first | apply o_lss | apply o_neq); exact rfl; exact rfl; exact rfl) | ((with_reducible apply o_add); exact rfl; exact rfl; exact rfl; (constructor <;> omega)) | ((with_reducible apply o_len); infer_instance; exact rfl; exact rfl) | ((with_reducible first | apply c_seq | apply c_block | apply c_region | apply c_nil | apply c_ret | apply c_exit | apply c_unroll | apply c_skip)) | ((with_reducible apply c_cond_t); exact rfl; exact tT_) | ((with_reducible apply c_cond_f); exact rfl; exact fF_) | ((with_reducible first | apply e_then | apply e_then_ret | apply e_then_exit | apply e_in | apply e_in_ret | apply e_in_same)) | ((with_reducible apply c_regionD0 (id := 6) []); kernel_rfl; kernel_rfl) | ((with_reducible apply q_nil); try simp only [ents, List.cons_append, List.nil_append]) | ((with_reducible first | apply q_move | apply q_assign); exact rfl; exact rfl) | ((with_reducible apply gdq_load); first | refine wq_load (h := ?_) | refine wq_loadAll (h := ?_) | refine wq_loadC (h := ?_) | refine wq_ldV (h := ?_) | refine wq_ldF (h := ?_)) | ((with_reducible apply gdq_binOp_neq); refine wq_neq_s (h := ?_)) | ((with_reducible apply q_idx); infer_instance; infer_instance; exact rfl; exact rfl; (first | exact rfl | omega); exact rfl; (first | assumption | omega | decide)))
    refine l_again (i + 1) (by omega) (by omega) ?_ ?_
    · (repeat (first | exact FSub.nil | refine FSub.cons rfl ?_))
    · ((try dsimp only); repeat (first | exact HSub.nil rfl | (apply HSub.take; (repeat (first | exact Rem.hd | apply Rem.tl | apply Rem.right))) | exact HSub.same | apply HSub.drop | (apply HSub.takeL; (focus ((repeat (first | exact RemL.hd | exact RemL.all | exact RemL.nil | apply RemL.tl | apply RemL.right))))) | (apply HSub.dropL; assumption) | (apply HSub.takeA; (focus ((repeat (first | exact RemL.hd | exact RemL.all | exact RemL.nil | apply RemL.tl | apply RemL.right)))); ((focus (repeat (first | exact AO.nil | apply AO.cons | (apply AO.app; assumption)))) <;> done)) | (apply HSub.nilA; ((focus (repeat (first | exact AO.nil | apply AO.cons | (apply AO.app; assumption)))) <;> done))))
  · repeat' (first | ((with_reducible first | apply o_move | apply o_assign); exact rfl; exact rfl) | ((with_reducible first | apply o_lss | apply o_neq); exact rfl; exact rfl; exact rfl) | ((with_reducible apply o_len); infer_instance; exact rfl; exact rfl) | ((with_reducible first | apply c_seq | apply c_block | apply c_region | apply c_nil | apply c_ret | apply c_exit | apply c_unroll | apply c_skip)) | ((with_reducible apply c_cond_f); exact rfl; exact fF_) | ((with_reducible first | apply e_then | apply e_then_ret | apply e_then_exit | apply e_in | apply e_in_ret | apply e_in_same)))
    apply r_body; apply res1 Try.results26; exact rV_; intro w' hw
    exact ⟨rfl, hw.below (by simp)⟩
/-- The script of some kinds, with bytes for changes and insertions. -/
def kindsF : Edit.T → List UInt8 → List Edit.Op
  | _, [] => []
  | bs, k :: ks => if k.toNat = 2 ∨ k.toNat = 5 then match bs with
      | [] => ⟨(k.toNat : Int), 0⟩ :: kindsF [] ks
      | y :: bs => ⟨(k.toNat : Int), (y.toNat : Int)⟩ :: kindsF bs ks
    else ⟨(k.toNat : Int), 0⟩ :: kindsF bs ks
set_option maxHeartbeats 1000000 in
theorem kinds_calls {kv : Value} {bs0 : Edit.T} {ks : List UInt8} (w : World) (hl : SV w 1 encB kv ks) (hn : ks.length ≤ 100) : Calls Try.prog 25 #[str bs0, kv] w fun e w' => ∃ v N, e = .returned v ∧
    (∃ a cap, v = .slice a (kindsF bs0 ks).length cap ∧ OW 38 2 opC (.slice a (kindsF bs0 ks).length cap) (kindsF bs0 ks) N ∧ ∀ x ∈ N, x.own = true) ∧ Rep w w' N ∧ ∀ x ∈ N, x.own = true := by
  obtain ⟨a0, ca, rfl, hca, hop⟩ := hl.open
  refine f_enter2 Try.func25 rfl Try.ntmps25 rfl (Rep.start w) ?_
  repeat' (first | ((with_reducible first | apply o_move | apply o_assign | apply o_faddr0); exact rfl; exact rfl) | ((with_reducible first | apply c_seq | apply c_block | apply c_region | apply c_nil | apply c_ret | apply c_exit | apply c_unroll | apply c_skip)) | ((with_reducible first | apply e_then | apply e_then_ret | apply e_then_exit | apply e_in | apply e_in_ret | apply e_in_same)))
  apply c_loop (σ := Nat × Edit.T × List Edit.Op × (Option Addr × Nat) × List Ent)
    (Fs := fun t => [(6, .int .i64 t.1), (5, .slice t.2.2.2.1.1 t.2.2.1.length t.2.2.2.1.2), (0, str t.2.1), (1, .slice a0 ks.length ca)])
    (Ls := fun t => t.2.2.2.2 ++ [])
    (I := fun t => t.1 ≤ ks.length ∧ OW 38 2 opC (.slice t.2.2.2.1.1 t.2.2.1.length t.2.2.2.1.2) t.2.2.1 t.2.2.2.2 ∧ t.2.2.1.length = t.1 ∧ t.2.2.1 ++ kindsF t.2.1 (ks.drop t.1) = kindsF bs0 ks)
    (μ := fun t => ks.length - t.1) (s0 := (0, bs0, [], (none, 0), []))
  · exact ⟨Nat.zero_le _, OW.nil, rfl, rfl⟩
  · (repeat (first | exact FSub.nil | refine FSub.cons rfl ?_))
  · ((try dsimp only); repeat (first | exact HSub.nil rfl | (apply HSub.take; (repeat (first | exact Rem.hd | apply Rem.tl | apply Rem.right))) | exact HSub.same | apply HSub.drop | (apply HSub.takeL; (focus ((repeat (first | exact RemL.hd | exact RemL.all | exact RemL.nil | apply RemL.tl | apply RemL.right))))) | (apply HSub.dropL; assumption) | (apply HSub.takeA; (focus ((repeat (first | exact RemL.hd | exact RemL.all | exact RemL.nil | apply RemL.tl | apply RemL.right)))); ((focus (repeat (first | exact AO.nil | apply AO.cons | (apply AO.app; assumption)))) <;> done)) | (apply HSub.nilA; ((focus (repeat (first | exact AO.nil | apply AO.cons | (apply AO.app; assumption)))) <;> done))))
  rintro ⟨i, bs, done, ⟨ad, capd⟩, N⟩ ⟨hi, hO, hdl, hk⟩
  simp only [] at hi hO hdl hk ⊢
  have hN := hO.own
  by_cases hlt : i < ks.length
  · obtain ⟨k, hkk⟩ : ∃ o, ks[i]? = some o := ⟨_, List.getElem?_eq_getElem hlt⟩
    obtain ⟨b, off, c, e, fz, rfl, hkn, hp⟩ := hop (by omega)
    have h1 := hp.one hkk rfl
    have hdr : ks.drop i = k :: ks.drop (i + 1) := by
      rw [← List.getElem_cons_drop (h := hlt), (List.getElem?_eq_some_iff.1 hkk).2]
    rw [hdr] at hk
    by_cases h25 : k.toNat = 2 ∨ k.toNat = 5
    · cases bs with
      | nil =>
        simp only [kindsF, if_pos h25] at hk
        repeat' (first | (apply o_appH (enc := opC) (ys := [(⟨(k.toNat : Int), 0⟩ : Edit.Op)]); infer_instance; infer_instance; infer_instance; exact rfl; exact opC_len; exact opC_one; exact rfl; exact rfl; exact rfl; assumption; (repeat (first | exact RemL.hd | exact RemL.all | exact RemL.nil | apply RemL.tl | apply RemL.right)); (exact fun w hw => SV.lit [(⟨(k.toNat : Int), 0⟩ : Edit.Op)] opC_len hw (by ((focus (repeat (first | assumption | exact At.hd | refine At.tl ?_ | (refine At.left ?_; assumption) | refine At.right ?_))) <;> done)) rfl rfl (by decide)); (first | decide | (constructor <;> (try simp only [List.length_cons, List.length_nil]) <;> omega) | (constructor <;> simp <;> omega)); intro _ _ _ _) | ((with_reducible first | apply o_move | apply o_assign | apply o_faddr0); exact rfl; exact rfl) | ((with_reducible apply gdo_load); first | refine wo_load (h := ?_) | refine wo_loadAll (h := ?_) | refine wo_loadC (h := ?_) | refine wo_ldV (h := ?_) | refine wo_ldF (h := ?_)) | ((with_reducible first | apply o_lss | apply o_eql | apply o_neq); exact rfl; exact rfl; exact rfl) | ((with_reducible apply o_add); exact rfl; exact rfl; exact rfl; (constructor <;> omega)) | ((with_reducible apply o_pick_t); exact rfl; exact tT_; exact rfl; exact rfl) | ((with_reducible apply o_pick_f); exact rfl; exact fF_; exact rfl; exact rfl) | ((with_reducible apply o_alloc); exact rfl; intro _) | ((with_reducible apply gdo_store); first | refine wo_store1 (h := ?_) | refine wo_storeA (h := ?_)) | ((with_reducible apply gdo_build); first | refine wo_build (h := ?_) | refine wo_buildA (h := ?_)) | ((with_reducible first | apply o_eql_t | apply o_neq_t); infer_instance; exact rfl; exact rfl; exact rfl) | ((with_reducible apply o_len); infer_instance; exact rfl; exact rfl) | ((with_reducible apply gdo_buildSlice); refine wo_buildSlice (h := fun _ => ?_)) | ((with_reducible apply o_idx); infer_instance; infer_instance; exact rfl; exact rfl; (first | exact rfl | omega); exact rfl; (first | assumption | omega | decide)) | ((with_reducible first | apply g_run | apply g_skip_none); exact rfl; exact gG_) | ((with_reducible apply g_skip); exact rfl; exact gG_; exact rfl) | ((with_reducible first | apply c_seq | apply c_block | apply c_region | apply c_nil | apply c_ret | apply c_exit | apply c_unroll | apply c_skip)) | ((with_reducible apply c_cond_t); exact rfl; exact tT_) | ((with_reducible apply c_cond_f); exact rfl; exact fF_) | ((with_reducible first | apply e_then | apply e_then_ret | apply e_then_exit | apply e_in | apply e_in_ret | apply e_in_same)) | ((with_reducible apply g_split_d); exact rfl; intro hcond; rotate_left; intro hcond; rotate_left))
        all_goals
          rename_i a' cap' N' hO'
          refine l_again (i + 1, [], done ++ [(⟨(k.toNat : Int), 0⟩ : Edit.Op)], (a', cap'), N') ⟨by simp only []; omega, hO', by simp; omega, by simp only []; rw [← hk]; simp⟩ (by simp only []; omega) ?_ ?_
          · (repeat (first | exact FSub.nil | refine FSub.cons rfl ?_))
          · ((try dsimp only); repeat (first | exact HSub.nil rfl | (apply HSub.take; (repeat (first | exact Rem.hd | apply Rem.tl | apply Rem.right))) | exact HSub.same | apply HSub.drop | (apply HSub.takeL; (focus ((repeat (first | exact RemL.hd | exact RemL.all | exact RemL.nil | apply RemL.tl | apply RemL.right))))) | (apply HSub.dropL; assumption) | (apply HSub.takeA; (focus ((repeat (first | exact RemL.hd | exact RemL.all | exact RemL.nil | apply RemL.tl | apply RemL.right)))); ((focus (repeat (first | exact AO.nil | apply AO.cons | (apply AO.app; assumption)))) <;> done)) | (apply HSub.nilA; ((focus (repeat (first | exact AO.nil | apply AO.cons | (apply AO.app; assumption)))) <;> done))))
      | cons y bs =>
        simp only [kindsF, if_pos h25] at hk
        have lx : (y :: bs).length = bs.length + 1 := rfl
        repeat' (first | (apply o_appH (enc := opC) (ys := [(⟨(k.toNat : Int), (y.toNat : Int)⟩ : Edit.Op)]); infer_instance; infer_instance; infer_instance; exact rfl; exact opC_len; exact opC_one; exact rfl; exact rfl; exact rfl; assumption; (repeat (first | exact RemL.hd | exact RemL.all | exact RemL.nil | apply RemL.tl | apply RemL.right)); (exact fun w hw => SV.lit [(⟨(k.toNat : Int), (y.toNat : Int)⟩ : Edit.Op)] opC_len hw (by ((focus (repeat (first | assumption | exact At.hd | refine At.tl ?_ | (refine At.left ?_; assumption) | refine At.right ?_))) <;> done)) rfl rfl (by decide)); (first | decide | (constructor <;> (try simp only [List.length_cons, List.length_nil]) <;> omega) | (constructor <;> simp <;> omega)); intro _ _ _ _) | ((with_reducible first | apply o_move | apply o_assign | apply o_faddr0); exact rfl; exact rfl) | ((with_reducible apply gdo_load); first | refine wo_load (h := ?_) | refine wo_loadAll (h := ?_) | refine wo_loadC (h := ?_) | refine wo_ldV (h := ?_) | refine wo_ldF (h := ?_)) | ((with_reducible first | apply o_lss | apply o_eql | apply o_neq); exact rfl; exact rfl; exact rfl) | ((with_reducible apply o_add); exact rfl; exact rfl; exact rfl; (constructor <;> omega)) | ((with_reducible apply o_pick_t); exact rfl; exact tT_; exact rfl; exact rfl) | ((with_reducible apply o_pick_f); exact rfl; exact fF_; exact rfl; exact rfl) | ((with_reducible apply o_alloc); exact rfl; intro _) | ((with_reducible apply gdo_store); first | refine wo_store1 (h := ?_) | refine wo_storeA (h := ?_)) | ((with_reducible apply gdo_build); first | refine wo_build (h := ?_) | refine wo_buildA (h := ?_)) | ((with_reducible first | apply o_drop_t | apply o_take_t); infer_instance; exact rfl; exact rfl; (first | exact Int.cast_ofNat_Int.symm | exact rfl | omega); (first | assumption | omega | (simp only [List.length_drop, List.length_take, List.length_append]; omega)); exact rfl) | ((with_reducible apply o_index_t); infer_instance; exact rfl; exact rfl; (first | exact Int.cast_ofNat_Int.symm | exact rfl | omega); (first | exact rfl | assumption); exact rfl) | ((with_reducible first | apply o_eql_t | apply o_neq_t); infer_instance; exact rfl; exact rfl; exact rfl) | ((with_reducible apply o_len); infer_instance; exact rfl; exact rfl) | ((with_reducible apply gdo_buildSlice); refine wo_buildSlice (h := fun _ => ?_)) | ((with_reducible apply o_idx); infer_instance; infer_instance; exact rfl; exact rfl; (first | exact rfl | omega); exact rfl; (first | assumption | omega | decide)) | ((with_reducible first | apply g_run | apply g_skip_none); exact rfl; exact gG_) | ((with_reducible apply g_skip); exact rfl; exact gG_; exact rfl) | ((with_reducible first | apply c_seq | apply c_block | apply c_region | apply c_nil | apply c_ret | apply c_exit | apply c_unroll | apply c_skip)) | ((with_reducible apply c_cond_t); exact rfl; exact tT_) | ((with_reducible first | apply e_then | apply e_then_ret | apply e_then_exit | apply e_in | apply e_in_ret | apply e_in_same)) | ((with_reducible apply g_split_d); exact rfl; intro hcond; rotate_left; intro hcond; rotate_left))
        all_goals
          rename_i a' cap' N' hO'
          refine l_again (i + 1, bs, done ++ [(⟨(k.toNat : Int), (y.toNat : Int)⟩ : Edit.Op)], (a', cap'), N') ⟨by simp only []; omega, hO', by simp; omega, by simp only []; rw [← hk]; simp⟩ (by simp only []; omega) ?_ ?_
          · (repeat (first | exact FSub.nil | refine FSub.cons rfl ?_))
          · ((try dsimp only); repeat (first | exact HSub.nil rfl | (apply HSub.take; (repeat (first | exact Rem.hd | apply Rem.tl | apply Rem.right))) | exact HSub.same | apply HSub.drop | (apply HSub.takeL; (focus ((repeat (first | exact RemL.hd | exact RemL.all | exact RemL.nil | apply RemL.tl | apply RemL.right))))) | (apply HSub.dropL; assumption) | (apply HSub.takeA; (focus ((repeat (first | exact RemL.hd | exact RemL.all | exact RemL.nil | apply RemL.tl | apply RemL.right)))); ((focus (repeat (first | exact AO.nil | apply AO.cons | (apply AO.app; assumption)))) <;> done)) | (apply HSub.nilA; ((focus (repeat (first | exact AO.nil | apply AO.cons | (apply AO.app; assumption)))) <;> done))))
    · simp only [kindsF, if_neg h25] at hk
      repeat' (first | (apply o_appH (enc := opC) (ys := [(⟨(k.toNat : Int), 0⟩ : Edit.Op)]); infer_instance; infer_instance; infer_instance; exact rfl; exact opC_len; exact opC_one; exact rfl; exact rfl; exact rfl; assumption; (repeat (first | exact RemL.hd | exact RemL.all | exact RemL.nil | apply RemL.tl | apply RemL.right)); (exact fun w hw => SV.lit [(⟨(k.toNat : Int), 0⟩ : Edit.Op)] opC_len hw (by ((focus (repeat (first | assumption | exact At.hd | refine At.tl ?_ | (refine At.left ?_; assumption) | refine At.right ?_))) <;> done)) rfl rfl (by decide)); (first | decide | (constructor <;> (try simp only [List.length_cons, List.length_nil]) <;> omega) | (constructor <;> simp <;> omega)); intro _ _ _ _) | ((with_reducible first | apply o_move | apply o_assign | apply o_faddr0); exact rfl; exact rfl) | ((with_reducible apply gdo_load); first | refine wo_load (h := ?_) | refine wo_loadAll (h := ?_) | refine wo_loadC (h := ?_) | refine wo_ldV (h := ?_) | refine wo_ldF (h := ?_)) | ((with_reducible first | apply o_lss | apply o_eql | apply o_neq); exact rfl; exact rfl; exact rfl) | ((with_reducible apply o_add); exact rfl; exact rfl; exact rfl; (constructor <;> omega)) | ((with_reducible apply o_pick_f); exact rfl; exact fF_; exact rfl; exact rfl) | ((with_reducible apply o_alloc); exact rfl; intro _) | ((with_reducible apply gdo_store); first | refine wo_store1 (h := ?_) | refine wo_storeA (h := ?_)) | ((with_reducible apply gdo_build); first | refine wo_build (h := ?_) | refine wo_buildA (h := ?_)) | ((with_reducible apply o_len); infer_instance; exact rfl; exact rfl) | ((with_reducible apply gdo_buildSlice); refine wo_buildSlice (h := fun _ => ?_)) | ((with_reducible apply o_idx); infer_instance; infer_instance; exact rfl; exact rfl; (first | exact rfl | omega); exact rfl; (first | assumption | omega | decide)) | ((with_reducible first | apply g_run | apply g_skip_none); exact rfl; exact gG_) | ((with_reducible apply g_skip); exact rfl; exact gG_; exact rfl) | ((with_reducible first | apply c_seq | apply c_block | apply c_region | apply c_nil | apply c_ret | apply c_exit | apply c_unroll | apply c_skip)) | ((with_reducible apply c_cond_t); exact rfl; exact tT_) | ((with_reducible apply c_cond_f); exact rfl; exact fF_) | ((with_reducible first | apply e_then | apply e_then_ret | apply e_then_exit | apply e_in | apply e_in_ret | apply e_in_same)))
      rename_i a' cap' N' hO'
      refine l_again (i + 1, bs, done ++ [(⟨(k.toNat : Int), 0⟩ : Edit.Op)], (a', cap'), N') ⟨by simp only []; omega, hO', by simp; omega, by simp only []; rw [← hk]; simp⟩ (by simp only []; omega) ?_ ?_
      · (repeat (first | exact FSub.nil | refine FSub.cons rfl ?_))
      · ((try dsimp only); repeat (first | exact HSub.nil rfl | (apply HSub.take; (repeat (first | exact Rem.hd | apply Rem.tl | apply Rem.right))) | exact HSub.same | apply HSub.drop | (apply HSub.takeL; (focus ((repeat (first | exact RemL.hd | exact RemL.all | exact RemL.nil | apply RemL.tl | apply RemL.right))))) | (apply HSub.dropL; assumption) | (apply HSub.takeA; (focus ((repeat (first | exact RemL.hd | exact RemL.all | exact RemL.nil | apply RemL.tl | apply RemL.right)))); ((focus (repeat (first | exact AO.nil | apply AO.cons | (apply AO.app; assumption)))) <;> done)) | (apply HSub.nilA; ((focus (repeat (first | exact AO.nil | apply AO.cons | (apply AO.app; assumption)))) <;> done))))
  · have hil : i = ks.length := by omega
    rw [hil, List.drop_length] at hk
    have hend : kindsF bs0 ks = done := by rw [← hk]; simp [kindsF]
    rw [hend]
    repeat' (first | ((with_reducible first | apply o_move | apply o_assign | apply o_faddr0); exact rfl; exact rfl) | ((with_reducible first | apply o_lss | apply o_eql | apply o_neq); exact rfl; exact rfl; exact rfl) | ((with_reducible apply o_len); infer_instance; exact rfl; exact rfl) | ((with_reducible first | apply c_seq | apply c_block | apply c_region | apply c_nil | apply c_ret | apply c_exit | apply c_unroll | apply c_skip)) | ((with_reducible apply c_cond_f); exact rfl; exact fF_) | ((with_reducible first | apply e_then | apply e_then_ret | apply e_then_exit | apply e_in | apply e_in_ret | apply e_in_same)))
    apply r_body; apply res1 Try.results25; exact rV_; intro w' hw
    exact ⟨_, N, rfl, ⟨ad, capd, rfl, hO, hO.own⟩, hw.sub (by rw [List.append_nil]; exact HSub.same), hO.own⟩
/-! ## distances of given texts -/
def Dn (c : Edit.Cs) : Nat → Edit.T → Edit.T → Int
  | 0, _, _ => 0
  | n + 1, a, b => match a, b with
    | [], b => b.length * c.ins
    | x :: a, [] => ((a.length + 1 : Nat) : Int) * c.del
    | x :: a, y :: b =>
      let m := min (min (Dn c n a b + (if x = y then 0 else c.chg)) (Dn c n a (y :: b) + c.del)) (Dn c n (x :: a) b + c.ins)
      if Edit.swp2 (x :: a) (y :: b) then min m (Dn c n (a.drop 1) (b.drop 1) + c.swp) else m
theorem Dn_eq (c : Edit.Cs) : ∀ (n : Nat) (a b : Edit.T), a.length + b.length < n → Dn c n a b = Edit.D c a b
  | 0, a, b, h => by omega
  | n + 1, [], b, _ => by rw [Edit.D_nil]; rfl
  | n + 1, x :: a, [], _ => by rw [Edit.D_nil']; rfl
  | n + 1, x :: a, y :: b, h => by
    simp only [List.length_cons] at h
    rw [Edit.D_cons]
    simp only [Dn]
    rw [Dn_eq c n a b (by omega), Dn_eq c n a (y :: b) (by simp; omega), Dn_eq c n (x :: a) b (by simp; omega), Dn_eq c n (a.drop 1) (b.drop 1) (by simp; omega)]
def bestN (c : Edit.Cs) (k : Nat) (a b : Edit.T) : Bool := Edit.ok k a b && decide (Edit.pr c k + Dn c 20 (a.drop (Edit.tk k)) (b.drop (Edit.wr k)) = Dn c 20 a b)
theorem bestN_eq {c : Edit.Cs} {k : Nat} {a b : Edit.T} (h : a.length + b.length < 20) : bestN c k a b = Edit.best c k a b := by
  unfold bestN Edit.best
  rw [Dn_eq c 20 a b h, Dn_eq c 20 _ _ (by simp; omega)]
def firstN (c : Edit.Cs) (a b : Edit.T) : Nat := if bestN c 1 a b then 1 else if bestN c 2 a b then 2 else if bestN c 3 a b then 3 else if bestN c 4 a b then 4 else 5
theorem firstN_eq {c : Edit.Cs} {a b : Edit.T} (h : a.length + b.length < 20) : firstN c a b = Edit.firstK c a b := by
  unfold firstN Edit.firstK
  rw [bestN_eq h, bestN_eq h, bestN_eq h, bestN_eq h]
def pathN (c : Edit.Cs) : Nat → Edit.T → Edit.T → List Edit.Op
  | 0, _, _ => []
  | n + 1, a, b => if a = [] ∧ b = [] then [] else Edit.opK (firstN c a b) b :: pathN c n (a.drop (Edit.tk (firstN c a b))) (b.drop (Edit.wr (firstN c a b)))
theorem pathN_eq (c : Edit.Cs) : ∀ (n : Nat) (a b : Edit.T), a.length + b.length < n → a.length + b.length < 20 → pathN c n a b = Edit.path c a b
  | 0, a, b, h, _ => by omega
  | n + 1, a, b, h, h2 => by
    simp only [pathN]
    by_cases he : a = [] ∧ b = []
    · rw [if_pos he, he.1, he.2, Edit.path_nil]
    · rw [if_neg he]
      have he' : a ≠ [] ∨ b ≠ [] := by
        by_cases h1 : a = []
        · exact .inr (fun h3 => he ⟨h1, h3⟩)
        · exact .inl h1
      have hlt := Edit.ok_lt (Edit.best_ok (Edit.first_spec c he').2.1).1
      rw [Edit.path_cons c he', firstN_eq h2, pathN_eq c n _ _ (by omega) (by omega)]
end Go.Proofs.Ytgkejkfodigdiaa
