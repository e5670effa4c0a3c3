/-
  A part of the proofs of this seat: what some of the program's functions compute, shown by walks through their code. Conditions: the hypotheses that each theorem names. (Its blocks of tactics were laid by a small program.)
-/
import Derived.Test.YtgkejkfodigdiaaE20
set_option linter.unusedSimpArgs false
set_option linter.unusedVariables false
namespace Go.Proofs.Ytgkejkfodigdiaa
open Go Go.Sx Go.RowKit
section
variable {r : Option Nat} {P : Program} {n : Nat} {D : List Deferred} {w0 : World} {F : List (Nat × Value)} {L L0 : List Ent} {Q : Exit → Act → World → Prop} {ops : Array Oper}
variable {d : Tmp} {ty : TypeId} {pos : String} {af : Array Edge} {rest : List Oper}
/-- The larger of two, by a name of the context. -/
theorem o_maxE {x y : Operand} {k : IntKind} {m l v : Int} {ats : Array TypeId} (hx : ev F x = some (.int k m)) (hy : ev F y = some (.int k l)) (e : max m l = v) (hd : Nat.ble (d + 1) n = true)
    (h : St n D w0 ((d, .int k v) :: F) L (WL r P ops Q rest)) : St n D w0 F L (WL r P ops Q (⟨some d, .call ⟨.builtin .max, #[x, y], ats⟩, ty, pos, af, none⟩ :: rest)) :=
  o_max2 hx hy hd (by rw [ite_max, e]; exact h)
end
attribute [local irreducible] WL WC WQ WR St Exit.then Exit.inBlock Exit.noGoto bodyPost roundPost beginK YR RG BM Calls B
/-! ## few steps -/
theorem mul_nn {n m : Int} (hn : 0 ≤ n ∧ n ≤ 120) (h : 1 ≤ m ∧ m ≤ 1000) : 0 ≤ n * m ∧ n * m ≤ 120000 := by
  refine ⟨Int.mul_nonneg (by omega) (by omega), ?_⟩
  have h1 : n * m ≤ 120 * m := Int.mul_le_mul_of_nonneg_right (by omega) (by omega)
  omega
theorem cnt_take {l : List Edit.Op} {i : Nat} {o : Edit.Op} (h : l[i]? = some o) (k : Int) : Edit.cnt k (l.take (i + 1)) = Edit.cnt k (l.take i) + (if o.kind = k then 1 else 0) := by
  rw [List.take_add_one, h]
  simp [Edit.cnt, List.countP_append, List.countP_cons]
theorem cnt_le (k : Int) (l : List Edit.Op) : Edit.cnt k l ≤ l.length := List.countP_le_length
set_option maxHeartbeats 4000000 in
theorem law6_calls {c : Edit.Cs} {a b : Edit.T} (w : World) (ha : a.length ≤ 9223372036854775807) (hb : b.length ≤ 9223372036854775807) : Calls Try.prog 6 #[str a, str b, costV c] w fun e w' => e = .returned (.bool true) ∧ Below w.heap.size w w' := by
  by_cases h : c.ok ∧ a.length ≤ 60 ∧ b.length ≤ 60
  · obtain ⟨hc, h1, h2⟩ := h
    have hr : ∀ w, Calls Try.prog 13 #[costV c] w fun e w' => e = .returned (.bool true) ∧ Below w.heap.size w w' := fun w => by
      have := right_calls c w; rwa [B_true hc] at this
    have hpl := Edit.path_len c a b
    have hpm := Edit.path_mem (c := c) (a := a) (b := b)
    have hsum := Edit.cost_counts (Edit.path_cost c a b)
    have hcnt := Edit.counts (Edit.path c a b) a b (fun o ho => (hpm o ho).1) (Edit.path_apply c a b)
    have hc' := hc
    unfold Edit.Cs.ok at hc'
    have hD := Edit.D_small hc h1 h2
    have p1 : ∀ w, Calls Try.prog 16 #[str a, str b, costV c] w fun e w' => ∃ v N, e = .returned v ∧ (∃ ad cap, v = .tuple #[.slice ad (Edit.path c a b).length cap, .int .i64 (Edit.D c a b), .int .i64 0] ∧ OW 38 2 opC (.slice ad (Edit.path c a b).length cap) (Edit.path c a b) N ∧ ∀ x ∈ N, x.own = true) ∧ Rep w w' N ∧ ∀ x ∈ N, x.own = true := fun w => path_ok hc h1 h2 w
    generalize hl : Edit.path c a b = l at hpl hpm hsum hcnt p1
    have hpl : l.length ≤ 120 := by omega
    have q1 := Edit.D_ones_ge a b
    have q2 := Edit.D_ones_le a b
    generalize hn : Edit.D c a b = n at hD hsum p1
    generalize hm : Edit.D Edit.ones a b = m at q1 q2
    have d1 := fun w => dist_at Edit.ones_ok h1 h2 hm w
    obtain ⟨mn, hmn⟩ : ∃ v, min (a.length : Int) b.length = v := ⟨_, rfl⟩
    obtain ⟨mx, hmx⟩ : ∃ v, max (a.length : Int) b.length = v := ⟨_, rfl⟩
    refine f_enter3 Try.func6 rfl Try.ntmps6 rfl (Rep.start w) ?_
    repeat' (first | ((first | ((with_reducible apply o_call_pure (f := 11)); exact rfl) | ((with_reducible apply q_call_pure (f := 11)); exact rfl; kernel_rfl; exact rfl; (focus (repeat (first | (apply SubJ.keep; (decide +kernel)) | apply SubJ.drop | exact SubJ.nil))))); (repeat (first | exact Evs.nil | apply Evs.cons rfl)); exact (fun w _ => awake_calls w)) | ((first | ((with_reducible apply o_call_pure (f := 13)); exact rfl) | ((with_reducible apply q_call_pure (f := 13)); exact rfl; kernel_rfl; exact rfl; (focus (repeat (first | (apply SubJ.keep; (decide +kernel)) | apply SubJ.drop | exact SubJ.nil))))); (repeat (first | exact Evs.nil | apply Evs.cons rfl)); exact (fun w _ => hr w)) | ((first | ((with_reducible apply o_call_new (f := 16)); exact rfl) | ((with_reducible apply q_call_new (f := 16)); exact rfl; exact rfl; (focus (repeat (first | (apply SubJ.keep; (decide +kernel)) | apply SubJ.drop | exact SubJ.nil))))); (repeat (first | exact Evs.nil | apply Evs.cons rfl)); exact (fun w _ => p1 w); rintro v1 N1 ⟨ad1, cap1, rfl, g1, o1⟩ <;> (try simp only [List.cons_append, List.nil_append])) | ((with_reducible first | apply o_move | apply o_assign | apply o_faddr0 | apply o_not_d); exact rfl; exact rfl) | ((with_reducible apply gdo_load); first | refine wo_load (h := ?_) | refine wo_loadAll (h := ?_) | refine wo_loadC (h := ?_) | refine wo_ldV (h := ?_) | refine wo_ldF (h := ?_)) | ((with_reducible first | apply o_lss | apply o_leq | apply o_gtr | apply o_geq | apply o_eql | apply o_neq | apply o_extract | apply o_min2 | apply o_max2); exact rfl; exact rfl; exact rfl) | ((with_reducible apply o_not); exact rfl; exact rfl) | ((with_reducible apply o_pick_f); exact rfl; exact fF_; exact rfl; exact rfl) | ((with_reducible apply o_alloc); exact rfl; intro _) | ((with_reducible apply o_box); exact rfl; exact rfl; exact rfl; intro _) | ((with_reducible apply o_len_t); infer_instance; exact rfl; exact rfl) | ((with_reducible first | apply g_run | apply g_skip_none); exact rfl; exact gG_) | ((with_reducible first | apply c_seq | apply c_block | apply c_region | apply c_nil | apply c_ret | apply c_exit | apply c_unroll | apply c_skip)) | ((with_reducible apply c_cond_f); exact rfl; exact fF_) | ((with_reducible first | apply e_then | apply e_then_ret | apply e_then_exit | apply e_in | apply e_in_ret | apply e_in_same)))
    rename_i b5 bm
    obtain ⟨ad1', cap1', e1, hc1, hop1⟩ := g1.open
    cases e1
    apply c_loop (σ := Nat × Int × Int × Int × Int × Int)
      (Fs := fun t => [(11, .int .i64 t.1), (10, ptr bm), (8, .int .i64 n), (7, .slice ad1 l.length cap1), (6, .bool false), (5, ptr b5), (0, str a), (1, str b)])
      (Ls := fun t => ⟨bm, Ce [.int .i64 0, .int .i64 t.2.1, .int .i64 t.2.2.1, .int .i64 t.2.2.2.1, .int .i64 t.2.2.2.2.1, .int .i64 t.2.2.2.2.2] 36, true⟩ :: (N1 ++ [⟨b5, Ce (costC c) 23, true⟩]))
      (I := fun t => t.1 ≤ l.length ∧ t.2.1 = Edit.cnt 1 (l.take t.1) ∧ t.2.2.1 = Edit.cnt 2 (l.take t.1) ∧ t.2.2.2.1 = Edit.cnt 3 (l.take t.1) ∧ t.2.2.2.2.1 = Edit.cnt 4 (l.take t.1) ∧ t.2.2.2.2.2 = Edit.cnt 5 (l.take t.1))
      (μ := fun t => l.length - t.1) (s0 := (0, 0, 0, 0, 0, 0))
    · exact ⟨Nat.zero_le _, rfl, rfl, rfl, rfl, rfl⟩
    · (repeat (first | exact FSub.nil | refine FSub.cons rfl ?_))
    · ((try dsimp only); repeat (first | exact HSub.nil rfl | (apply HSub.take; (repeat (first | exact Rem.hd | apply Rem.tl | apply Rem.right))) | exact HSub.same | apply HSub.drop | (apply HSub.takeL; (focus ((repeat (first | exact RemL.hd | exact RemL.all | exact RemL.nil | apply RemL.tl | apply RemL.right))))) | (apply HSub.takeA; (first | exact RemL.hd | exact RemL.all); ((focus (repeat (first | exact AO.nil | apply AO.cons | (apply AO.app; assumption)))) <;> done)) | (apply HSub.dropL; assumption) | (apply HSub.takeA; (focus ((repeat (first | exact RemL.hd | exact RemL.all | exact RemL.nil | apply RemL.tl | apply RemL.right)))); ((focus (repeat (first | exact AO.nil | apply AO.cons | (apply AO.app; assumption)))) <;> done)) | (apply HSub.nilA; ((focus (repeat (first | exact AO.nil | apply AO.cons | (apply AO.app; assumption)))) <;> done))))
    rintro ⟨i, n1, n2, n3, n4, n5⟩ ⟨hi, i1, i2, i3, i4, i5⟩
    simp only [] at hi i1 i2 i3 i4 i5 ⊢
    have lt1 := cnt_le 1 (l.take i)
    have lt2 := cnt_le 2 (l.take i)
    have lt3 := cnt_le 3 (l.take i)
    have lt4 := cnt_le 4 (l.take i)
    have lt5 := cnt_le 5 (l.take i)
    rw [List.length_take] at lt1 lt2 lt3 lt4 lt5
    have bd : (0 ≤ n1 ∧ n1 ≤ 120) ∧ (0 ≤ n2 ∧ n2 ≤ 120) ∧ (0 ≤ n3 ∧ n3 ≤ 120) ∧ (0 ≤ n4 ∧ n4 ≤ 120) ∧ (0 ≤ n5 ∧ n5 ≤ 120) := by omega
    obtain ⟨bd1, bd2, bd3, bd4, bd5⟩ := bd
    by_cases hlt : i < l.length
    · obtain ⟨o, ho⟩ : ∃ o, l[i]? = some o := ⟨_, List.getElem?_eq_getElem hlt⟩
      obtain ⟨b', s1, rfl, rfl, _⟩ := hop1 (by omega)
      have gg := (Pat.flat opC_len l s1).get ho
      have hm' := hpm o (List.mem_of_getElem? ho)
      have t1 := cnt_take ho 1
      have t2 := cnt_take ho 2
      have t3 := cnt_take ho 3
      have t4 := cnt_take ho 4
      have t5 := cnt_take ho 5
      obtain ⟨kd, y⟩ := o
      obtain ⟨-, hkd, hby⟩ := hm'
      simp only [] at hkd hby t1 t2 t3 t4 t5
      have hk5 : kd = 1 ∨ kd = 2 ∨ kd = 3 ∨ kd = 4 ∨ kd = 5 := by omega
      rcases hk5 with rfl | rfl | rfl | rfl | rfl
      · simp only [Int.reduceEq, if_true, if_false, Nat.add_zero] at t1 t2 t3 t4 t5
        have hy : y = 0 := by
          by_cases h : y = 0
          · exact h
          · exact absurd (hby h) (by decide)
        repeat' (first | ((with_reducible first | apply o_move | apply o_assign | apply o_faddr0 | apply o_not_d); exact rfl; exact rfl) | ((with_reducible first | apply o_faddr | apply o_not_B); exact rfl; exact rfl) | ((with_reducible apply gdo_load); first | refine wo_load (h := ?_) | refine wo_loadAll (h := ?_) | refine wo_loadC (h := ?_) | refine wo_ldV (h := ?_) | refine wo_ldF (h := ?_)) | ((with_reducible first | apply o_lss | apply o_leq | apply o_gtr | apply o_geq | apply o_eql | apply o_neq | apply o_extract | apply o_min2 | apply o_max2); exact rfl; exact rfl; exact rfl) | ((with_reducible first | apply o_add | apply o_sub | apply o_mul); exact rfl; exact rfl; exact rfl; (constructor <;> omega)) | ((with_reducible apply o_pick_t); exact rfl; exact tT_; exact rfl; exact rfl) | ((with_reducible apply o_pick_f); exact rfl; exact fF_; exact rfl; exact rfl) | ((with_reducible apply gdo_store); first | refine wo_store1 (h := ?_) | refine wo_storeA (h := ?_)) | ((with_reducible apply o_idxA); infer_instance; infer_instance; exact rfl; exact rfl; (first | exact Int.cast_ofNat_Int.symm | exact rfl | omega); exact rfl; (first | decide | omega)) | ((with_reducible apply o_len); infer_instance; exact rfl; exact rfl) | ((with_reducible apply o_idx); infer_instance; infer_instance; exact rfl; exact rfl; (first | exact rfl | omega); exact rfl; (first | assumption | omega | decide)) | ((with_reducible first | apply g_run | apply g_skip_none); exact rfl; exact gG_) | ((with_reducible apply g_skip); exact rfl; exact gG_; exact rfl) | ((with_reducible first | apply c_seq | apply c_block | apply c_region | apply c_nil | apply c_ret | apply c_exit | apply c_unroll | apply c_skip)) | ((with_reducible apply c_cond_t); exact rfl; exact tT_) | ((with_reducible apply c_cond_f); exact rfl; exact fF_) | ((with_reducible first | apply e_then | apply e_then_ret | apply e_then_exit | apply e_in | apply e_in_ret | apply e_in_same)) | ((with_reducible apply g_split_d); exact rfl; intro hcond; rotate_left; intro hcond; rotate_left))
        all_goals first
          | (exfalso; omega)
          | (exfalso; simp only [] at *; omega)
          | (
             refine l_again (i + 1, n1 + 1, n2, n3, n4, n5) ⟨by simp only []; omega, by simp only []; omega, by simp only []; omega, by simp only []; omega, by simp only []; omega, by simp only []; omega⟩ (by simp only []; omega) ?_ ?_
             · (repeat (first | exact FSub.nil | refine FSub.cons rfl ?_))
             · ((try dsimp only); repeat (first | exact HSub.nil rfl | (apply HSub.take; (repeat (first | exact Rem.hd | apply Rem.tl | apply Rem.right))) | exact HSub.same | apply HSub.drop | (apply HSub.takeL; (focus ((repeat (first | exact RemL.hd | exact RemL.all | exact RemL.nil | apply RemL.tl | apply RemL.right))))) | (apply HSub.takeA; (first | exact RemL.hd | exact RemL.all); ((focus (repeat (first | exact AO.nil | apply AO.cons | (apply AO.app; assumption)))) <;> done)) | (apply HSub.dropL; assumption) | (apply HSub.takeA; (focus ((repeat (first | exact RemL.hd | exact RemL.all | exact RemL.nil | apply RemL.tl | apply RemL.right)))); ((focus (repeat (first | exact AO.nil | apply AO.cons | (apply AO.app; assumption)))) <;> done)) | (apply HSub.nilA; ((focus (repeat (first | exact AO.nil | apply AO.cons | (apply AO.app; assumption)))) <;> done)))))
      · simp only [Int.reduceEq, if_true, if_false, Nat.add_zero] at t1 t2 t3 t4 t5
        clear hby
        repeat' (first | ((with_reducible first | apply o_move | apply o_assign | apply o_faddr0 | apply o_not_d); exact rfl; exact rfl) | ((with_reducible first | apply o_faddr | apply o_not_B); exact rfl; exact rfl) | ((with_reducible apply gdo_load); first | refine wo_load (h := ?_) | refine wo_loadAll (h := ?_) | refine wo_loadC (h := ?_) | refine wo_ldV (h := ?_) | refine wo_ldF (h := ?_)) | ((with_reducible first | apply o_lss | apply o_leq | apply o_gtr | apply o_geq | apply o_eql | apply o_neq | apply o_extract | apply o_min2 | apply o_max2); exact rfl; exact rfl; exact rfl) | ((with_reducible first | apply o_add | apply o_sub | apply o_mul); exact rfl; exact rfl; exact rfl; (constructor <;> omega)) | ((with_reducible apply o_pick_t); exact rfl; exact tT_; exact rfl; exact rfl) | ((with_reducible apply o_pick_f); exact rfl; exact fF_; exact rfl; exact rfl) | ((with_reducible apply gdo_store); first | refine wo_store1 (h := ?_) | refine wo_storeA (h := ?_)) | ((with_reducible apply o_idxA); infer_instance; infer_instance; exact rfl; exact rfl; (first | exact Int.cast_ofNat_Int.symm | exact rfl | omega); exact rfl; (first | decide | omega)) | ((with_reducible apply o_len); infer_instance; exact rfl; exact rfl) | ((with_reducible apply o_idx); infer_instance; infer_instance; exact rfl; exact rfl; (first | exact rfl | omega); exact rfl; (first | assumption | omega | decide)) | ((with_reducible first | apply g_run | apply g_skip_none); exact rfl; exact gG_) | ((with_reducible apply g_skip); exact rfl; exact gG_; exact rfl) | ((with_reducible first | apply c_seq | apply c_block | apply c_region | apply c_nil | apply c_ret | apply c_exit | apply c_unroll | apply c_skip)) | ((with_reducible apply c_cond_t); exact rfl; exact tT_) | ((with_reducible apply c_cond_f); exact rfl; exact fF_) | ((with_reducible first | apply e_then | apply e_then_ret | apply e_then_exit | apply e_in | apply e_in_ret | apply e_in_same)) | ((with_reducible apply g_split_d); exact rfl; intro hcond; rotate_left; intro hcond; rotate_left))
        all_goals first
          | (exfalso; omega)
          | (exfalso; simp only [] at *; omega)
          | (
             refine l_again (i + 1, n1, n2 + 1, n3, n4, n5) ⟨by simp only []; omega, by simp only []; omega, by simp only []; omega, by simp only []; omega, by simp only []; omega, by simp only []; omega⟩ (by simp only []; omega) ?_ ?_
             · (repeat (first | exact FSub.nil | refine FSub.cons rfl ?_))
             · ((try dsimp only); repeat (first | exact HSub.nil rfl | (apply HSub.take; (repeat (first | exact Rem.hd | apply Rem.tl | apply Rem.right))) | exact HSub.same | apply HSub.drop | (apply HSub.takeL; (focus ((repeat (first | exact RemL.hd | exact RemL.all | exact RemL.nil | apply RemL.tl | apply RemL.right))))) | (apply HSub.takeA; (first | exact RemL.hd | exact RemL.all); ((focus (repeat (first | exact AO.nil | apply AO.cons | (apply AO.app; assumption)))) <;> done)) | (apply HSub.dropL; assumption) | (apply HSub.takeA; (focus ((repeat (first | exact RemL.hd | exact RemL.all | exact RemL.nil | apply RemL.tl | apply RemL.right)))); ((focus (repeat (first | exact AO.nil | apply AO.cons | (apply AO.app; assumption)))) <;> done)) | (apply HSub.nilA; ((focus (repeat (first | exact AO.nil | apply AO.cons | (apply AO.app; assumption)))) <;> done)))))
      · simp only [Int.reduceEq, if_true, if_false, Nat.add_zero] at t1 t2 t3 t4 t5
        have hy : y = 0 := by
          by_cases h : y = 0
          · exact h
          · exact absurd (hby h) (by decide)
        repeat' (first | ((with_reducible first | apply o_move | apply o_assign | apply o_faddr0 | apply o_not_d); exact rfl; exact rfl) | ((with_reducible first | apply o_faddr | apply o_not_B); exact rfl; exact rfl) | ((with_reducible apply gdo_load); first | refine wo_load (h := ?_) | refine wo_loadAll (h := ?_) | refine wo_loadC (h := ?_) | refine wo_ldV (h := ?_) | refine wo_ldF (h := ?_)) | ((with_reducible first | apply o_lss | apply o_leq | apply o_gtr | apply o_geq | apply o_eql | apply o_neq | apply o_extract | apply o_min2 | apply o_max2); exact rfl; exact rfl; exact rfl) | ((with_reducible first | apply o_add | apply o_sub | apply o_mul); exact rfl; exact rfl; exact rfl; (constructor <;> omega)) | ((with_reducible apply o_pick_t); exact rfl; exact tT_; exact rfl; exact rfl) | ((with_reducible apply o_pick_f); exact rfl; exact fF_; exact rfl; exact rfl) | ((with_reducible apply gdo_store); first | refine wo_store1 (h := ?_) | refine wo_storeA (h := ?_)) | ((with_reducible apply o_idxA); infer_instance; infer_instance; exact rfl; exact rfl; (first | exact Int.cast_ofNat_Int.symm | exact rfl | omega); exact rfl; (first | decide | omega)) | ((with_reducible apply o_len); infer_instance; exact rfl; exact rfl) | ((with_reducible apply o_idx); infer_instance; infer_instance; exact rfl; exact rfl; (first | exact rfl | omega); exact rfl; (first | assumption | omega | decide)) | ((with_reducible first | apply g_run | apply g_skip_none); exact rfl; exact gG_) | ((with_reducible apply g_skip); exact rfl; exact gG_; exact rfl) | ((with_reducible first | apply c_seq | apply c_block | apply c_region | apply c_nil | apply c_ret | apply c_exit | apply c_unroll | apply c_skip)) | ((with_reducible apply c_cond_t); exact rfl; exact tT_) | ((with_reducible apply c_cond_f); exact rfl; exact fF_) | ((with_reducible first | apply e_then | apply e_then_ret | apply e_then_exit | apply e_in | apply e_in_ret | apply e_in_same)) | ((with_reducible apply g_split_d); exact rfl; intro hcond; rotate_left; intro hcond; rotate_left))
        all_goals first
          | (exfalso; omega)
          | (exfalso; simp only [] at *; omega)
          | (
             refine l_again (i + 1, n1, n2, n3 + 1, n4, n5) ⟨by simp only []; omega, by simp only []; omega, by simp only []; omega, by simp only []; omega, by simp only []; omega, by simp only []; omega⟩ (by simp only []; omega) ?_ ?_
             · (repeat (first | exact FSub.nil | refine FSub.cons rfl ?_))
             · ((try dsimp only); repeat (first | exact HSub.nil rfl | (apply HSub.take; (repeat (first | exact Rem.hd | apply Rem.tl | apply Rem.right))) | exact HSub.same | apply HSub.drop | (apply HSub.takeL; (focus ((repeat (first | exact RemL.hd | exact RemL.all | exact RemL.nil | apply RemL.tl | apply RemL.right))))) | (apply HSub.takeA; (first | exact RemL.hd | exact RemL.all); ((focus (repeat (first | exact AO.nil | apply AO.cons | (apply AO.app; assumption)))) <;> done)) | (apply HSub.dropL; assumption) | (apply HSub.takeA; (focus ((repeat (first | exact RemL.hd | exact RemL.all | exact RemL.nil | apply RemL.tl | apply RemL.right)))); ((focus (repeat (first | exact AO.nil | apply AO.cons | (apply AO.app; assumption)))) <;> done)) | (apply HSub.nilA; ((focus (repeat (first | exact AO.nil | apply AO.cons | (apply AO.app; assumption)))) <;> done)))))
      · simp only [Int.reduceEq, if_true, if_false, Nat.add_zero] at t1 t2 t3 t4 t5
        have hy : y = 0 := by
          by_cases h : y = 0
          · exact h
          · exact absurd (hby h) (by decide)
        repeat' (first | ((with_reducible first | apply o_move | apply o_assign | apply o_faddr0 | apply o_not_d); exact rfl; exact rfl) | ((with_reducible first | apply o_faddr | apply o_not_B); exact rfl; exact rfl) | ((with_reducible apply gdo_load); first | refine wo_load (h := ?_) | refine wo_loadAll (h := ?_) | refine wo_loadC (h := ?_) | refine wo_ldV (h := ?_) | refine wo_ldF (h := ?_)) | ((with_reducible first | apply o_lss | apply o_leq | apply o_gtr | apply o_geq | apply o_eql | apply o_neq | apply o_extract | apply o_min2 | apply o_max2); exact rfl; exact rfl; exact rfl) | ((with_reducible first | apply o_add | apply o_sub | apply o_mul); exact rfl; exact rfl; exact rfl; (constructor <;> omega)) | ((with_reducible apply o_pick_t); exact rfl; exact tT_; exact rfl; exact rfl) | ((with_reducible apply o_pick_f); exact rfl; exact fF_; exact rfl; exact rfl) | ((with_reducible apply gdo_store); first | refine wo_store1 (h := ?_) | refine wo_storeA (h := ?_)) | ((with_reducible apply o_idxA); infer_instance; infer_instance; exact rfl; exact rfl; (first | exact Int.cast_ofNat_Int.symm | exact rfl | omega); exact rfl; (first | decide | omega)) | ((with_reducible apply o_len); infer_instance; exact rfl; exact rfl) | ((with_reducible apply o_idx); infer_instance; infer_instance; exact rfl; exact rfl; (first | exact rfl | omega); exact rfl; (first | assumption | omega | decide)) | ((with_reducible first | apply g_run | apply g_skip_none); exact rfl; exact gG_) | ((with_reducible apply g_skip); exact rfl; exact gG_; exact rfl) | ((with_reducible first | apply c_seq | apply c_block | apply c_region | apply c_nil | apply c_ret | apply c_exit | apply c_unroll | apply c_skip)) | ((with_reducible apply c_cond_t); exact rfl; exact tT_) | ((with_reducible apply c_cond_f); exact rfl; exact fF_) | ((with_reducible first | apply e_then | apply e_then_ret | apply e_then_exit | apply e_in | apply e_in_ret | apply e_in_same)) | ((with_reducible apply g_split_d); exact rfl; intro hcond; rotate_left; intro hcond; rotate_left))
        all_goals first
          | (exfalso; omega)
          | (exfalso; simp only [] at *; omega)
          | (
             refine l_again (i + 1, n1, n2, n3, n4 + 1, n5) ⟨by simp only []; omega, by simp only []; omega, by simp only []; omega, by simp only []; omega, by simp only []; omega, by simp only []; omega⟩ (by simp only []; omega) ?_ ?_
             · (repeat (first | exact FSub.nil | refine FSub.cons rfl ?_))
             · ((try dsimp only); repeat (first | exact HSub.nil rfl | (apply HSub.take; (repeat (first | exact Rem.hd | apply Rem.tl | apply Rem.right))) | exact HSub.same | apply HSub.drop | (apply HSub.takeL; (focus ((repeat (first | exact RemL.hd | exact RemL.all | exact RemL.nil | apply RemL.tl | apply RemL.right))))) | (apply HSub.takeA; (first | exact RemL.hd | exact RemL.all); ((focus (repeat (first | exact AO.nil | apply AO.cons | (apply AO.app; assumption)))) <;> done)) | (apply HSub.dropL; assumption) | (apply HSub.takeA; (focus ((repeat (first | exact RemL.hd | exact RemL.all | exact RemL.nil | apply RemL.tl | apply RemL.right)))); ((focus (repeat (first | exact AO.nil | apply AO.cons | (apply AO.app; assumption)))) <;> done)) | (apply HSub.nilA; ((focus (repeat (first | exact AO.nil | apply AO.cons | (apply AO.app; assumption)))) <;> done)))))
      · simp only [Int.reduceEq, if_true, if_false, Nat.add_zero] at t1 t2 t3 t4 t5
        clear hby
        repeat' (first | ((with_reducible first | apply o_move | apply o_assign | apply o_faddr0 | apply o_not_d); exact rfl; exact rfl) | ((with_reducible first | apply o_faddr | apply o_not_B); exact rfl; exact rfl) | ((with_reducible apply gdo_load); first | refine wo_load (h := ?_) | refine wo_loadAll (h := ?_) | refine wo_loadC (h := ?_) | refine wo_ldV (h := ?_) | refine wo_ldF (h := ?_)) | ((with_reducible first | apply o_lss | apply o_leq | apply o_gtr | apply o_geq | apply o_eql | apply o_neq | apply o_extract | apply o_min2 | apply o_max2); exact rfl; exact rfl; exact rfl) | ((with_reducible first | apply o_add | apply o_sub | apply o_mul); exact rfl; exact rfl; exact rfl; (constructor <;> omega)) | ((with_reducible apply o_pick_t); exact rfl; exact tT_; exact rfl; exact rfl) | ((with_reducible apply o_pick_f); exact rfl; exact fF_; exact rfl; exact rfl) | ((with_reducible apply gdo_store); first | refine wo_store1 (h := ?_) | refine wo_storeA (h := ?_)) | ((with_reducible apply o_idxA); infer_instance; infer_instance; exact rfl; exact rfl; (first | exact Int.cast_ofNat_Int.symm | exact rfl | omega); exact rfl; (first | decide | omega)) | ((with_reducible apply o_len); infer_instance; exact rfl; exact rfl) | ((with_reducible apply o_idx); infer_instance; infer_instance; exact rfl; exact rfl; (first | exact rfl | omega); exact rfl; (first | assumption | omega | decide)) | ((with_reducible first | apply g_run | apply g_skip_none); exact rfl; exact gG_) | ((with_reducible apply g_skip); exact rfl; exact gG_; exact rfl) | ((with_reducible first | apply c_seq | apply c_block | apply c_region | apply c_nil | apply c_ret | apply c_exit | apply c_unroll | apply c_skip)) | ((with_reducible apply c_cond_t); exact rfl; exact tT_) | ((with_reducible apply c_cond_f); exact rfl; exact fF_) | ((with_reducible first | apply e_then | apply e_then_ret | apply e_then_exit | apply e_in | apply e_in_ret | apply e_in_same)) | ((with_reducible apply g_split_d); exact rfl; intro hcond; rotate_left; intro hcond; rotate_left))
        all_goals first
          | (exfalso; omega)
          | (exfalso; simp only [] at *; omega)
          | (
             refine l_again (i + 1, n1, n2, n3, n4, n5 + 1) ⟨by simp only []; omega, by simp only []; omega, by simp only []; omega, by simp only []; omega, by simp only []; omega, by simp only []; omega⟩ (by simp only []; omega) ?_ ?_
             · (repeat (first | exact FSub.nil | refine FSub.cons rfl ?_))
             · ((try dsimp only); repeat (first | exact HSub.nil rfl | (apply HSub.take; (repeat (first | exact Rem.hd | apply Rem.tl | apply Rem.right))) | exact HSub.same | apply HSub.drop | (apply HSub.takeL; (focus ((repeat (first | exact RemL.hd | exact RemL.all | exact RemL.nil | apply RemL.tl | apply RemL.right))))) | (apply HSub.takeA; (first | exact RemL.hd | exact RemL.all); ((focus (repeat (first | exact AO.nil | apply AO.cons | (apply AO.app; assumption)))) <;> done)) | (apply HSub.dropL; assumption) | (apply HSub.takeA; (focus ((repeat (first | exact RemL.hd | exact RemL.all | exact RemL.nil | apply RemL.tl | apply RemL.right)))); ((focus (repeat (first | exact AO.nil | apply AO.cons | (apply AO.app; assumption)))) <;> done)) | (apply HSub.nilA; ((focus (repeat (first | exact AO.nil | apply AO.cons | (apply AO.app; assumption)))) <;> done)))))
    · have hil : i = l.length := by omega
      subst hil
      rw [List.take_length] at i1 i2 i3 i4 i5 lt1 lt2 lt3 lt4 lt5
      rw [← i2, ← i3, ← i4, ← i5] at hsum
      have m2 := mul_nn (n := n2) (by omega) hc'.2.2.1
      have m3 := mul_nn (n := n3) (by omega) hc'.2.2.2
      have m4 := mul_nn (n := n4) (by omega) hc'.2.1
      have m5 := mul_nn (n := n5) (by omega) hc'.1
      repeat' (first | ((first | ((with_reducible apply o_call_pure (f := 17)); exact rfl) | ((with_reducible apply q_call_pure (f := 17)); exact rfl; kernel_rfl; exact rfl; (focus (repeat (first | (apply SubJ.keep; (decide +kernel)) | apply SubJ.drop | exact SubJ.nil))))); (repeat (first | exact Evs.nil | apply Evs.cons rfl)); exact (fun w _ => ones_calls w)) | ((first | ((with_reducible apply o_call_pure (f := 14)); exact rfl) | ((with_reducible apply q_call_pure (f := 14)); exact rfl; kernel_rfl; exact rfl; (focus (repeat (first | (apply SubJ.keep; (decide +kernel)) | apply SubJ.drop | exact SubJ.nil))))); (repeat (first | exact Evs.nil | apply Evs.cons rfl)); exact (fun w _ => d1 w)) | ((with_reducible apply o_minE); exact rfl; exact rfl; exact hmn; exact rfl) | ((with_reducible apply o_maxE); exact rfl; exact rfl; exact hmx; exact rfl) | ((with_reducible first | apply o_move | apply o_assign | apply o_faddr0 | apply o_not_d); exact rfl; exact rfl) | ((with_reducible apply gdo_load); first | refine wo_load (h := ?_) | refine wo_loadAll (h := ?_) | refine wo_loadC (h := ?_) | refine wo_ldV (h := ?_) | refine wo_ldF (h := ?_)) | ((with_reducible first | apply o_lss | apply o_leq | apply o_gtr | apply o_geq | apply o_eql | apply o_neq | apply o_extract | apply o_min2 | apply o_max2); exact rfl; exact rfl; exact rfl) | ((with_reducible first | apply o_add | apply o_sub | apply o_mul); exact rfl; exact rfl; exact rfl; (constructor <;> omega)) | ((with_reducible apply o_pick_t); exact rfl; exact tT_; exact rfl; exact rfl) | ((with_reducible apply o_len_t); infer_instance; exact rfl; exact rfl) | ((with_reducible apply o_idxA); infer_instance; infer_instance; exact rfl; exact rfl; (first | exact Int.cast_ofNat_Int.symm | exact rfl | omega); exact rfl; (first | decide | omega)) | ((with_reducible apply o_len); infer_instance; exact rfl; exact rfl) | ((with_reducible first | apply g_run | apply g_skip_none); exact rfl; exact gG_) | ((with_reducible first | apply c_seq | apply c_block | apply c_region | apply c_nil | apply c_ret | apply c_exit | apply c_unroll | apply c_skip)) | ((with_reducible apply c_cond_f); exact rfl; exact fF_) | ((with_reducible first | apply e_then | apply e_then_ret | apply e_then_exit | apply e_in | apply e_in_ret | apply e_in_same)))
      apply r_body; apply res1 Try.results6; exact rV_; intro w' hw
      exact ⟨by first | rfl | (congr 2; exact decide_eq_true (by omega)), hw.below (show AO _ from by ((focus (repeat (first | exact AO.nil | apply AO.cons | (apply AO.app; assumption)))) <;> done))⟩
  · obtain ⟨bc, hbc⟩ : ∃ b : Bool, B c.ok = b := ⟨_, rfl⟩
    have hr : ∀ w, Calls Try.prog 13 #[costV c] w fun e w' => e = .returned (.bool bc) ∧ Below w.heap.size w w' := fun w => by
      rw [← hbc]; exact right_calls c w
    have hcases : 60 < a.length ∨ 60 < b.length ∨ bc = false := by
      by_cases hc : c.ok
      · have : ¬ (a.length ≤ 60 ∧ b.length ≤ 60) := fun g => h ⟨hc, g⟩
        omega
      · rw [B_false hc] at hbc
        exact .inr (.inr hbc.symm)
    rcases hcases with h1 | h1 | rfl
    all_goals
      refine f_enter3 Try.func6 rfl Try.ntmps6 rfl (Rep.start w) ?_
      repeat' (first | ((first | ((with_reducible apply o_call_pure (f := 11)); exact rfl) | ((with_reducible apply q_call_pure (f := 11)); exact rfl; kernel_rfl; exact rfl; (focus (repeat (first | (apply SubJ.keep; (decide +kernel)) | apply SubJ.drop | exact SubJ.nil))))); (repeat (first | exact Evs.nil | apply Evs.cons rfl)); exact (fun w _ => awake_calls w)) | ((first | ((with_reducible apply o_call_pure (f := 13)); exact rfl) | ((with_reducible apply q_call_pure (f := 13)); exact rfl; kernel_rfl; exact rfl; (focus (repeat (first | (apply SubJ.keep; (decide +kernel)) | apply SubJ.drop | exact SubJ.nil))))); (repeat (first | exact Evs.nil | apply Evs.cons rfl)); exact (fun w _ => hr w)) | ((with_reducible first | apply o_move | apply o_assign | apply o_faddr0 | apply o_not_d); exact rfl; exact rfl) | ((with_reducible apply gdo_load); first | refine wo_load (h := ?_) | refine wo_loadAll (h := ?_) | refine wo_loadC (h := ?_) | refine wo_ldV (h := ?_) | refine wo_ldF (h := ?_)) | ((with_reducible first | apply o_lss | apply o_leq | apply o_gtr | apply o_geq | apply o_eql | apply o_neq | apply o_extract | apply o_min2 | apply o_max2); exact rfl; exact rfl; exact rfl) | ((with_reducible apply o_not); exact rfl; exact rfl) | ((with_reducible apply o_pick_t); exact rfl; exact tT_; exact rfl; exact rfl) | ((with_reducible apply o_pick_f); exact rfl; exact fF_; exact rfl; exact rfl) | ((with_reducible apply o_box); exact rfl; exact rfl; exact rfl; intro _) | ((with_reducible apply o_len_t); infer_instance; exact rfl; exact rfl) | ((with_reducible first | apply g_run | apply g_skip_none); exact rfl; exact gG_) | ((with_reducible apply g_skip); exact rfl; exact gG_; exact rfl) | ((with_reducible first | apply c_seq | apply c_block | apply c_region | apply c_nil | apply c_ret | apply c_exit | apply c_unroll | apply c_skip)) | ((with_reducible apply c_cond_t); exact rfl; exact tT_) | ((with_reducible apply c_cond_f); exact rfl; exact fF_) | ((with_reducible first | apply e_then | apply e_then_ret | apply e_then_exit | apply e_in | apply e_in_ret | apply e_in_same)) | ((with_reducible apply g_split_d); exact rfl; intro hcond; rotate_left; intro hcond; rotate_left))
      all_goals first
        | (exfalso; omega)
        | (apply r_body; apply res1 Try.results6; exact rV_; intro w' hw; exact ⟨rfl, hw.below (by simp)⟩)
end Go.Proofs.Ytgkejkfodigdiaa
