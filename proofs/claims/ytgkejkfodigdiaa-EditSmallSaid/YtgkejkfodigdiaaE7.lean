/-
  A part of the proofs of this seat: what some of the program's functions compute, shown by walks through their code. Conditions: the hypotheses that each theorem names. (Its blocks of tactics were laid by a small program.)
-/
import Derived.Test.YtgkejkfodigdiaaE6
set_option linter.unusedSimpArgs false
set_option linter.unusedVariables false
namespace Go.Proofs.Ytgkejkfodigdiaa
open Go Go.Sx Go.RowKit
attribute [local irreducible] WL WC WQ WR St Exit.then Exit.inBlock Exit.noGoto bodyPost roundPost beginK YR RG BM Calls B
/-! ## Path -/
theorem At.of_mem {L : List Ent} {b : Nat} {o : Obj} {f : Bool} (h : (⟨b, o, f⟩ : Ent) ∈ L) : At L b o := by
  induction L with
  | nil => cases h
  | cons e L ih =>
    rcases List.mem_cons.1 h with rfl | h
    · exact .hd
    · exact .tl (ih h)
theorem LL.row {α : Type} {E : TypeId} {k : Nat} {enc : α → List Value} {ss : List SD} {xss : List (List α)} {M : List Ent} (h : LL E k enc ss xss M) {i : Nat} {xs : List α} (hi : xss[i]? = some xs) (hp : 0 < xs.length) :
    ∃ b cap sl, ss[i]? = some ((some ⟨b, 0, none⟩, xs.length, cap) : SD) ∧ At M b (Ce (xs.flatMap enc ++ sl) E) := by
  obtain ⟨s, N, M1, M2, g1, g2, rfl, _⟩ := h.at hi
  obtain ⟨a, cap, e, hc, hop⟩ := g2.open
  obtain ⟨b, sl, rfl, rfl, _⟩ := hop hp
  refine ⟨b, cap, sl, ?_, .right (.left .hd)⟩
  rw [g1]
  obtain ⟨s1, s2, s3⟩ := s
  unfold sdV at e
  cases e
  rfl
theorem At.perm {L M : List Ent} (h : M.Perm L) {b : Nat} {o : Obj} (ha : At L b o) : At M b o := by
  obtain ⟨f, hf⟩ := ha.mem
  exact At.of_mem (h.mem_iff.2 hf)
def rowsTo (c : Edit.Cs) (a b : Edit.T) (k : Nat) : List (List Int) := (List.range k).map fun t => rowOf c a b (a.length - t)
theorem rowsTo_len (c : Edit.Cs) (a b : Edit.T) (k : Nat) : (rowsTo c a b k).length = k := by simp [rowsTo]
theorem rowsTo_succ (c : Edit.Cs) (a b : Edit.T) (k : Nat) : rowsTo c a b (k + 1) = rowsTo c a b k ++ [rowOf c a b (a.length - k)] := by simp [rowsTo, List.range_succ]
theorem rowsTo_rev (c : Edit.Cs) (a b : Edit.T) {i : Nat} (h : i ≤ a.length) : (rowsTo c a b (a.length + 1)).reverse[i]? = some (rowOf c a b i) := by
  rw [List.getElem?_reverse (by rw [rowsTo_len]; omega), rowsTo_len]
  simp only [rowsTo, List.getElem?_map]
  rw [List.getElem?_range (by omega)]
  simp only [Option.map_some]
  congr 2; omega
theorem rows_calls {c : Edit.Cs} (hc : c.ok) {a b : Edit.T} (ha : a.length ≤ 60) (hb : b.length ≤ 60) {b10 : Nat} {w0 w : World} {L0 : List Ent} (hw : Rep w0 w ([⟨b10, Ce [.slice none 0 0] 71, true⟩] ++ L0)) :
    Calls Try.prog 32 (#[str a, str b, costV c, .func (.func 34) #[] #[ptr b10]] ++ #[]) w fun e w' => ∃ u G', e = .returned u ∧ (u = .tuple #[] ∧ ∃ b0 cap ss s0 M, LL 3 1 encI ss (rowsTo c a b (a.length + 1)) M ∧ G' = ⟨b10, Ce [.slice (some ⟨b0, 0, none⟩) ss.length cap] 71, true⟩ :: ⟨b0, Ce (ss.flatMap encS ++ s0) 69, true⟩ :: M) ∧ Rep w0 w' (G' ++ L0) := by
  have h10 := hw.ok _ List.mem_cons_self
  refine (eachRow_calls hc ha hb (f := 34) #[ptr b10] (fun k G => ∃ ad cap ss N M, OW 69 1 encS (.slice ad ss.length cap) ss N ∧ LL 3 1 encI ss (rowsTo c a b k) M ∧ G = ⟨b10, Ce [.slice ad ss.length cap] 71, false⟩ :: (N ++ M)) (fun k hk G hG w0 w L0 br s hw hr => ?_) _ ⟨none, 0, [], [], [], OW.nil, LL.nil, rfl⟩ w (Rep.given h10)).mono ?_
  · obtain ⟨ad, cap, ss, N, M, hO, hL, rfl⟩ := hG
    have hl := hL.len
    rw [rowsTo_len] at hl
    have := pcb_calls hw hO hL hr (by rw [rowOf_len]; omega) (by omega)
    rw [rowOf_len] at this
    refine this.mono fun e w' ⟨g1, ad', cap', s1, N', M', h1, h2, h3⟩ => ⟨_, g1, ⟨ad', cap', ss ++ [s1], N', M', h1, ?_, rfl⟩, h3⟩
    rw [rowsTo_succ]; exact h2
  · rintro e w' ⟨G', g1, ⟨ad, cap, ss, N, M, hO, hL, rfl⟩, g2⟩
    have hl := hL.len
    rw [rowsTo_len] at hl
    obtain ⟨ad', cap', e1, hcap, hop⟩ := hO.open
    cases e1
    obtain ⟨b0, s0, rfl, rfl, hs0⟩ := hop (by omega)
    have hown : ∀ x ∈ (⟨b0, Ce (ss.flatMap encS ++ s0) 69, true⟩ :: M : List Ent), x.own = true := fun x hx => by
      rcases List.mem_cons.1 hx with rfl | hx
      · rfl
      · exact hL.own x hx
    refine ⟨_, _, g1, ⟨rfl, b0, cap, ss, s0, M, hL, rfl⟩, ?_⟩
    have := hw.turn1 (N := ⟨b0, Ce (ss.flatMap encS ++ s0) 69, true⟩ :: M) (g2.perm List.perm_append_comm.symm) hown
    refine this.perm ?_
    exact List.perm_middle
set_option maxHeartbeats 4000000 in
theorem path_ok {c : Edit.Cs} (hc : c.ok) {a b : Edit.T} (ha : a.length ≤ 60) (hb : b.length ≤ 60) (w : World) : Calls Try.prog 16 #[str a, str b, costV c] w fun e w' => ∃ v N, e = .returned v ∧ (∃ ad cap, v = .tuple #[.slice ad (Edit.path c a b).length cap, .int .i64 (Edit.D c a b), .int .i64 0] ∧ OW 38 2 opC (.slice ad (Edit.path c a b).length cap) (Edit.path c a b) N ∧ ∀ x ∈ N, x.own = true) ∧ Rep w w' N ∧ ∀ x ∈ N, x.own = true := by
  have hk := chk_ok hc ha hb
  have hch : ∀ w, Calls Try.prog 31 #[str a, str b, costV c] w fun e w' => e = .returned (.int .i64 0) ∧ Below w.heap.size w w' := fun w => by
    have := checked_calls c a b w; rwa [hk] at this
  have hD0 := rowsTo_rev c a b (i := 0) (Nat.zero_le _)
  have hrev : ∀ {b0 cap : Nat} {ss : List SD} {s0 : List Value} (w0 w : World) (L0 : List Ent), ss.length ≤ 1000 → Rep w0 w ([⟨b0, Ce (ss.flatMap encS ++ s0) 69, true⟩] ++ L0) → Calls Try.prog 36 (#[.slice (some ⟨b0, 0, none⟩) ss.length cap] ++ #[]) w fun e w' => ∃ u G', e = .returned u ∧ (u = .tuple #[] ∧ G' = [⟨b0, Ce (ss.reverse.flatMap encS ++ s0) 69, true⟩]) ∧ Rep w0 w' (G' ++ L0) := fun {b0 cap ss s0} w0 w L0 hn hw => by
    refine (reverse_calls (cap := cap) (hw.ok _ List.mem_cons_self) hn).mono fun e w' ⟨g1, g2⟩ => ⟨_, _, g1, ⟨rfl, rfl⟩, hw.turn1 (N := []) g2 (by simp)⟩
  have hl61 : ∀ {ss : List SD} {M : List Ent}, LL 3 1 encI ss (rowsTo c a b (a.length + 1)) M → ss.length = a.length + 1 := fun h => by rw [h.len, rowsTo_len]
  refine f_enter3 Try.func16 rfl Try.ntmps16 rfl (Rep.start w) ?_
  repeat' (first | ((first | ((with_reducible apply o_call_pure (f := 31)); exact rfl) | ((with_reducible apply q_call_pure (f := 31)); exact rfl; kernel_rfl; exact rfl; (focus (repeat (first | (apply SubJ.keep; (decide +kernel)) | apply SubJ.drop | exact SubJ.nil))))); (repeat (first | exact Evs.nil | apply Evs.cons rfl)); exact (fun w _ => hch w)) | ((apply o_call_frame (f := 32) (G := [⟨_, Ce [.slice none 0 0] 71, true⟩]) (Φ := fun v G' => v = .tuple #[] ∧ ∃ b0 cap ss s0 M, LL 3 1 encI ss (rowsTo c a b (a.length + 1)) M ∧ G' = ⟨_, Ce [.slice (some ⟨b0, 0, none⟩) ss.length cap] 71, true⟩ :: ⟨b0, Ce (ss.flatMap encS ++ s0) 69, true⟩ :: M)); exact rfl; exact rfl; (repeat (first | exact Evs.nil | apply Evs.cons rfl)); (exact RemL.one (by (repeat (first | exact Rem.hd | apply Rem.tl | apply Rem.right)))); (exact fun w hw => rows_calls hc ha hb hw); rintro v G' ⟨rfl, b0, cap, ss, s0, M, hL, rfl⟩) | ((with_reducible first | apply o_move | apply o_assign); exact rfl; exact rfl) | ((with_reducible apply gdo_load); first | refine wo_load (h := ?_) | refine wo_loadAll (h := ?_) | refine wo_loadC (h := ?_) | refine wo_ldV (h := ?_) | refine wo_ldF (h := ?_)) | ((with_reducible first | apply o_lss | apply o_leq | apply o_eql | apply o_neq | apply o_extract); exact rfl; exact rfl; exact rfl) | ((with_reducible apply o_alloc); exact rfl; intro _) | ((with_reducible apply o_box); exact rfl; exact rfl; exact rfl; intro _) | ((with_reducible apply gdo_makeFunc); refine wo_func (h := ?_)) | ((with_reducible first | apply c_seq | apply c_block | apply c_region | apply c_nil | apply c_ret | apply c_exit | apply c_scope | apply c_label | apply c_unroll | apply c_skip)) | ((with_reducible apply c_cond_f); exact rfl; exact fF_) | ((with_reducible first | apply e_then | apply e_then_ret | apply e_then_exit | apply e_in | apply e_in_ret | apply e_in_same | apply e_ng | apply e_ng_ret | apply e_ng_exit)))
  rename_i bx b10
  have hss := hl61 hL
  repeat' (first | ((apply o_call_frame (f := 36) (G := [⟨b0, Ce (ss.flatMap encS ++ s0) 69, true⟩]) (Φ := fun v G' => v = .tuple #[] ∧ G' = [⟨b0, Ce (ss.reverse.flatMap encS ++ s0) 69, true⟩])); exact rfl; exact rfl; (repeat (first | exact Evs.nil | apply Evs.cons rfl)); (exact RemL.one (by (repeat (first | exact Rem.hd | apply Rem.tl | apply Rem.right)))); (exact fun w hw => hrev _ w _ (by omega) hw); rintro v G' ⟨rfl, rfl⟩) | ((first | ((with_reducible apply o_call_new (f := 37)); exact rfl) | ((with_reducible apply q_call_new (f := 37)); exact rfl; exact rfl; (focus (repeat (first | (apply SubJ.keep; (decide +kernel)) | apply SubJ.drop | exact SubJ.nil))))); (repeat (first | exact Evs.nil | apply Evs.cons rfl)); exact (fun w _ => prices_calls c w); rintro v N ⟨bm, bc, rfl, rfl⟩ <;> (try simp only [List.cons_append, List.nil_append])) | ((with_reducible first | apply o_move | apply o_assign); exact rfl; exact rfl) | ((with_reducible apply gdo_load); first | refine wo_load (h := ?_) | refine wo_loadAll (h := ?_) | refine wo_loadC (h := ?_) | refine wo_ldV (h := ?_) | refine wo_ldF (h := ?_)) | ((with_reducible first | apply c_seq | apply c_block | apply c_region | apply c_nil | apply c_ret | apply c_exit | apply c_scope | apply c_label | apply c_unroll | apply c_skip)) | ((with_reducible first | apply e_then | apply e_then_ret | apply e_then_exit | apply e_in | apply e_in_ret | apply e_in_same | apply e_ng | apply e_ng_ret | apply e_ng_exit)))
  simp only [List.append_eq]
  obtain ⟨M', hp, hL'⟩ := hL.rev
  have hrow : ∀ i, i ≤ a.length → ∃ bi cap sl, ss.reverse[i]? = some ((some ⟨bi, 0, none⟩, (rowOf c a b i).length, cap) : SD) ∧ At M bi (Ce ((rowOf c a b i).flatMap encI ++ sl) 3) := fun i h => by
    obtain ⟨bi, cap, sl, g1, g2⟩ := LL.row hL' (rowsTo_rev c a b h) (by rw [rowOf_len]; omega)
    exact ⟨bi, cap, sl, g1, At.perm hp.symm g2⟩
  have hM := hL.own
  apply c_loop (σ := Nat × Nat × (Option Addr × Nat) × List Edit.Op × List Ent)
    (Fs := fun s => [(14, .int .i64 s.2.1), (13, .int .i64 s.1), (12, .slice s.2.2.1.1 s.2.2.2.1.length s.2.2.1.2), (11, .map (some bm)), (10, ptr b10), (1, str b), (0, str a)])
    (Ls := fun s => ⟨bm, MO (pmap bc), true⟩ :: ⟨bc, Ce (costC c) 23, true⟩ :: ⟨b0, Ce (ss.reverse.flatMap encS ++ s0) 69, true⟩ :: ⟨b10, Ce [.slice (some ⟨b0, 0, none⟩) ss.length cap] 71, true⟩ :: (M ++ s.2.2.2.2))
    (I := fun s => (s.1 ≤ a.length ∧ s.2.1 ≤ b.length) ∧ OW 38 2 opC (.slice s.2.2.1.1 s.2.2.2.1.length s.2.2.1.2) s.2.2.2.1 s.2.2.2.2 ∧ s.2.2.2.1 ++ Edit.path c (a.drop s.1) (b.drop s.2.1) = Edit.path c a b)
    (μ := fun s => a.length - s.1 + (b.length - s.2.1)) (s0 := (0, 0, (none, 0), [], []))
  · exact ⟨⟨Nat.zero_le _, Nat.zero_le _⟩, OW.nil, rfl⟩
  · (repeat (first | exact FSub.nil | refine FSub.cons rfl ?_))
  · ((try dsimp only); repeat (first | exact HSub.nil rfl | (apply HSub.take; (repeat (first | exact Rem.hd | apply Rem.tl | apply Rem.right))) | exact HSub.same | apply HSub.drop | (apply HSub.takeL; (focus ((repeat (first | exact RemL.hd | exact RemL.all | exact RemL.nil | apply RemL.tl | apply RemL.right))))) | (apply HSub.dropL; assumption) | (apply HSub.takeA; (focus ((repeat (first | exact RemL.hd | exact RemL.all | exact RemL.nil | apply RemL.tl | apply RemL.right)))); ((focus (repeat (first | exact AO.nil | apply AO.cons | (apply AO.app; assumption)))) <;> done)) | (apply HSub.nilA; ((focus (repeat (first | exact AO.nil | apply AO.cons | (apply AO.app; assumption)))) <;> done))))
  rintro ⟨i, j, ⟨ad, capd⟩, done, N⟩ ⟨⟨hi, hj⟩, hO, hpath⟩
  simp only [] at hi hj hO hpath ⊢
  have hdl : done.length ≤ 120 := by
    have h1 := Edit.path_len c a b
    rw [← hpath, List.length_append] at h1
    omega
  apply c_seq
  apply c_cut (σ := Bool) (Fs := fun t => [(45, .bool t), (14, .int .i64 j), (13, .int .i64 i), (12, .slice ad done.length capd), (11, .map (some bm)), (10, ptr b10), (1, str b), (0, str a)])
    (Ls := fun _ => ⟨bm, MO (pmap bc), true⟩ :: ⟨bc, Ce (costC c) 23, true⟩ :: ⟨b0, Ce (ss.reverse.flatMap encS ++ s0) 69, true⟩ :: ⟨b10, Ce [.slice (some ⟨b0, 0, none⟩) ss.length cap] 71, true⟩ :: (M ++ N)) (I := fun t => t = decide (i < a.length ∨ j < b.length))
  · repeat' (first | ((with_reducible first | apply o_move | apply o_assign); exact rfl; exact rfl) | ((with_reducible first | apply o_lss | apply o_leq | apply o_eql | apply o_neq | apply o_extract); exact rfl; exact rfl; exact rfl) | ((with_reducible apply o_pick_t); exact rfl; exact tT_; exact rfl; exact rfl) | ((with_reducible apply o_pick_f); exact rfl; exact fF_; exact rfl; exact rfl) | ((with_reducible apply o_len_t); infer_instance; exact rfl; exact rfl) | ((with_reducible first | apply g_run | apply g_skip_none); exact rfl; exact gG_) | ((with_reducible apply g_skip); exact rfl; exact gG_; exact rfl) | ((with_reducible first | apply c_seq | apply c_block | apply c_region | apply c_nil | apply c_ret | apply c_exit | apply c_scope | apply c_label | apply c_unroll | apply c_skip)) | ((with_reducible first | apply e_then | apply e_then_ret | apply e_then_exit | apply e_in | apply e_in_ret | apply e_in_same | apply e_ng | apply e_ng_ret | apply e_ng_exit)) | ((with_reducible apply g_split_d); exact rfl; intro hcond; rotate_left; intro hcond; rotate_left))
    all_goals
      refine l_meet (decide (i < a.length ∨ j < b.length)) rfl ?_ HSub.same
      first
        | (rw [decide_eq_true (by omega)]; (repeat (first | exact FSub.nil | refine FSub.cons rfl ?_)); done)
        | (rw [show decide (i < a.length ∨ j < b.length) = decide ((j : Int) < (b.length : Int)) from decide_eq_decide.2 (by omega)]; (repeat (first | exact FSub.nil | refine FSub.cons rfl ?_)))
  rintro t rfl
  by_cases hgo : i < a.length ∨ j < b.length
  · rw [decide_eq_true hgo]
    have he : a.drop i ≠ [] ∨ b.drop j ≠ [] := by
      rcases hgo with h | h
      · exact .inl (fun e => by have := congrArg List.length e; simp at this; omega)
      · exact .inr (fun e => by have := congrArg List.length e; simp at this; omega)
    have hf := Edit.first_spec c he
    generalize hK : Edit.firstK c (a.drop i) (b.drop j) = K at hf
    repeat' (first | ((with_reducible first | apply o_move | apply o_assign); exact rfl; exact rfl) | ((with_reducible first | apply c_seq | apply c_block | apply c_region | apply c_nil | apply c_ret | apply c_exit | apply c_scope | apply c_label | apply c_unroll | apply c_skip)) | ((with_reducible apply c_cond_t); exact rfl; exact tT_) | ((with_reducible first | apply e_then | apply e_then_ret | apply e_then_exit | apply e_in | apply e_in_ret | apply e_in_same | apply e_ng | apply e_ng_ret | apply e_ng_exit)))
    apply c_loop (σ := Nat) (Fs := fun k => [(15, .int .u8 k), (14, .int .i64 j), (13, .int .i64 i), (12, .slice ad done.length capd), (11, .map (some bm)), (10, ptr b10), (1, str b), (0, str a)])
      (Ls := fun _ => ⟨bm, MO (pmap bc), true⟩ :: ⟨bc, Ce (costC c) 23, true⟩ :: ⟨b0, Ce (ss.reverse.flatMap encS ++ s0) 69, true⟩ :: ⟨b10, Ce [.slice (some ⟨b0, 0, none⟩) ss.length cap] 71, true⟩ :: (M ++ N)) (I := fun k => 1 ≤ k ∧ k ≤ K) (μ := fun k => 6 - k) (s0 := 1)
    · exact ⟨Nat.le_refl _, hf.1.1⟩
    · (repeat (first | exact FSub.nil | refine FSub.cons rfl ?_))
    · ((try dsimp only); repeat (first | exact HSub.nil rfl | (apply HSub.take; (repeat (first | exact Rem.hd | apply Rem.tl | apply Rem.right))) | exact HSub.same | apply HSub.drop | (apply HSub.takeL; (focus ((repeat (first | exact RemL.hd | exact RemL.all | exact RemL.nil | apply RemL.tl | apply RemL.right))))) | (apply HSub.dropL; assumption) | (apply HSub.takeA; (focus ((repeat (first | exact RemL.hd | exact RemL.all | exact RemL.nil | apply RemL.tl | apply RemL.right)))); ((focus (repeat (first | exact AO.nil | apply AO.cons | (apply AO.app; assumption)))) <;> done)) | (apply HSub.nilA; ((focus (repeat (first | exact AO.nil | apply AO.cons | (apply AO.app; assumption)))) <;> done))))
    rintro k ⟨hk1, hk2⟩
    obtain ⟨o, t, u, hnx, hnext⟩ := next_any (k := k) ⟨hk1, by omega⟩ (a.drop i) (b.drop j)
    by_cases hok : Edit.ok k (a.drop i) (b.drop j) = true
    · obtain ⟨rfl, rfl, rfl⟩ := hnx hok
      have hol := Edit.ok_len hok
      simp only [List.length_drop] at hol
      obtain ⟨f, fn, caps, hTC, hini, hlook, hprice⟩ := price_any c bc (k := k) ⟨hk1, by omega⟩
      have hi2 : i + Edit.tk k ≤ a.length := by omega
      have hj2 : j + Edit.wr k ≤ b.length := by omega
      obtain ⟨b1, cap1, sl1, g1, g2⟩ := hrow i hi
      obtain ⟨b2, cap2, sl2, g3, g4⟩ := hrow (i + Edit.tk k) hi2
      have c1 := (Pat.flat encS_len ss.reverse s0).one (u := .slice (some ⟨b1, 0, none⟩) (rowOf c a b i).length cap1) g1 rfl
      have c2 := (Pat.flat encI_len (rowOf c a b i) sl1).one (rowOf_get c a b i hj) rfl
      have c3 := (Pat.flat encS_len ss.reverse s0).one (u := .slice (some ⟨b2, 0, none⟩) (rowOf c a b (i + Edit.tk k)).length cap2) g3 rfl
      have c4 := (Pat.flat encI_len (rowOf c a b (i + Edit.tk k)) sl2).one (rowOf_get c a b (i + Edit.tk k) hj2) rfl
      have l1 := rowOf_len c a b i
      have l2 := rowOf_len c a b (i + Edit.tk k)
      have hp := Edit.pr_ok hc k
      have hD1 := Edit.D_small hc (a := a.drop i) (b := b.drop j) (by simp; omega) (by simp; omega)
      have hD2 := Edit.D_small hc (a := a.drop (i + Edit.tk k)) (b := b.drop (j + Edit.wr k)) (by simp; omega) (by simp; omega)
      by_cases hbest : Edit.D c (a.drop (i + Edit.tk k)) (b.drop (j + Edit.wr k)) + Edit.pr c k = Edit.D c (a.drop i) (b.drop j)
      · have hkK : k = K := by
          by_cases hlt : k < K
          · have h1 := hf.2.2 k hk1 hlt
            have h2 : Edit.best c k (a.drop i) (b.drop j) = true := by
              simp only [Edit.best, hok, Bool.true_and, decide_eq_true_eq, List.drop_drop]
              omega
            rw [h2] at h1; cases h1
          · omega
        repeat' (first | ((first | ((with_reducible apply o_call_pure (f := 38)); exact rfl) | ((with_reducible apply q_call_pure (f := 38)); exact rfl; kernel_rfl; exact rfl; (focus (repeat (first | (apply SubJ.keep; (decide +kernel)) | apply SubJ.drop | exact SubJ.nil))))); (repeat (first | exact Evs.nil | apply Evs.cons rfl)); exact (fun w _ => hnext w)) | ((with_reducible first | apply o_idx (m := i + Edit.tk k) | apply q_idx (m := i + Edit.tk k)); infer_instance; infer_instance; exact rfl; exact rfl; omega; exact rfl; omega) | ((with_reducible first | apply o_idx (m := j + Edit.wr k) | apply q_idx (m := j + Edit.wr k)); infer_instance; infer_instance; exact rfl; exact rfl; omega; exact rfl; omega) | ((with_reducible apply q_look_in (j := k - 1)); infer_instance; infer_instance; exact rfl; exact rfl; (focus (repeat (first | (apply SubJ.keep; (decide +kernel)) | apply SubJ.drop | exact SubJ.nil))); exact rfl; (first | exact Kn.old (by assumption) rfl | (apply Kn.oldA; assumption; ((focus (repeat (first | exact AO.nil | apply AO.cons | (apply AO.app; assumption)))) <;> done)) | (apply Kn.apart; assumption; ((focus (repeat (first | exact Apart.nil | apply Apart.own | (apply Apart.given; assumption) | (apply Apart.app; assumption)))) <;> done)) | (refine Kn.at ?_; ((focus (repeat (first | assumption | exact At.hd | refine At.tl ?_ | (refine At.left ?_; assumption) | refine At.right ?_))) <;> done))); exact pmap_mk bc; exact rfl; exact hlook; exact rfl) | ((with_reducible apply q_call_pureV (f := f)); exact rfl; exact rfl; exact hini; exact rfl; (focus (repeat (first | (apply SubJ.keep; (decide +kernel)) | apply SubJ.drop | exact SubJ.nil))); (repeat (first | exact Evs.nil | apply Evs.cons rfl)); exact (fun w hw => hprice w (hw.at (by ((focus (repeat (first | assumption | exact At.hd | refine At.tl ?_ | (refine At.left ?_; assumption) | refine At.right ?_))) <;> done))))) | (apply o_appH (enc := opC) (ys := [(Edit.opK k (b.drop j))]); infer_instance; infer_instance; infer_instance; exact rfl; exact opC_len; exact opC_one; exact rfl; exact rfl; exact rfl; assumption; (repeat (first | exact RemL.hd | exact RemL.all | exact RemL.nil | apply RemL.tl | apply RemL.right)); (exact fun w hw => SV.lit [(Edit.opK k (b.drop j))] opC_len hw (by ((focus (repeat (first | assumption | exact At.hd | refine At.tl ?_ | (refine At.left ?_; assumption) | refine At.right ?_))) <;> done)) rfl rfl (by decide)); (first | decide | (constructor <;> (try simp only [List.length_cons, List.length_nil]) <;> omega) | (constructor <;> simp <;> omega)); intro _ _ _ _) | ((with_reducible first | apply o_move | apply o_assign); exact rfl; exact rfl) | ((with_reducible apply gdo_load); first | refine wo_load (h := ?_) | refine wo_loadAll (h := ?_) | refine wo_loadC (h := ?_) | refine wo_ldV (h := ?_) | refine wo_ldF (h := ?_)) | ((with_reducible first | apply o_lss | apply o_leq | apply o_eql | apply o_neq | apply o_extract); exact rfl; exact rfl; exact rfl) | ((with_reducible apply o_add); exact rfl; exact rfl; exact rfl; (constructor <;> omega)) | ((with_reducible apply gdo_buildSlice); refine wo_buildSlice (h := fun _ => ?_)) | ((with_reducible first | apply c_seq | apply c_block | apply c_region | apply c_nil | apply c_ret | apply c_exit | apply c_scope | apply c_label | apply c_unroll | apply c_skip)) | ((with_reducible apply c_cond_t); exact rfl; exact tT_) | ((with_reducible first | apply e_then | apply e_then_ret | apply e_then_exit | apply e_in | apply e_in_ret | apply e_in_same | apply e_ng | apply e_ng_ret | apply e_ng_exit)) | ((with_reducible apply e_in_other); exact rfl) | ((with_reducible apply c_regionD0 (id := 14) []); kernel_rfl; kernel_rfl) | ((with_reducible apply c_regionD0 (id := 15) []); kernel_rfl; kernel_rfl) | ((with_reducible apply q_nil); try simp only [ents, List.cons_append, List.nil_append]) | ((with_reducible first | apply q_move | apply q_assign); exact rfl; exact rfl) | ((with_reducible apply gdq_load); first | refine wq_load (h := ?_) | refine wq_loadAll (h := ?_) | refine wq_loadC (h := ?_) | refine wq_ldV (h := ?_) | refine wq_ldF (h := ?_)) | ((with_reducible first | apply q_lss | apply q_leq | apply q_eql | apply q_neq | apply q_extract); exact rfl; exact rfl; exact rfl) | ((with_reducible apply q_add); exact rfl; exact rfl; exact rfl; (constructor <;> omega)) | ((with_reducible apply q_pick_t); exact rfl; exact tT_; exact rfl; exact rfl) | ((with_reducible first | apply q_drop_t | apply q_take_t); infer_instance; exact rfl; exact rfl; (first | exact Int.cast_ofNat_Int.symm | exact rfl | omega); (first | assumption | omega | (simp only [List.length_drop, List.length_take, List.length_append]; omega)); exact rfl) | ((with_reducible apply q_idx); infer_instance; infer_instance; exact rfl; exact rfl; (first | exact rfl | omega); exact rfl; (first | assumption | omega | decide)) | ((with_reducible first | apply h_run | apply h_skip_none); exact rfl; exact gG_) | ((with_reducible apply gdq_store); first | refine wq_store1 (h := ?_) | refine wq_storeA (h := ?_) | refine wq_store1E (h := ?_) | refine wq_storeAE (h := ?_)) | ((with_reducible apply q_alloc); exact rfl; intro _))
        rename_i ad' cap' N' hO'
        refine l_again (i + Edit.tk k, j + Edit.wr k, (ad', cap'), done ++ [Edit.opK k (b.drop j)], N') ⟨⟨hi2, hj2⟩, hO', ?_⟩ (by simp only []; omega) ?_ ?_
        · simp only []
          rw [← hpath, Edit.path_cons c he, hK, ← hkK, List.drop_drop, List.drop_drop, List.append_assoc]
          rfl
        · (repeat (first | exact FSub.nil | refine FSub.cons rfl ?_))
        · ((try dsimp only); repeat (first | exact HSub.nil rfl | (apply HSub.take; (repeat (first | exact Rem.hd | apply Rem.tl | apply Rem.right))) | exact HSub.same | apply HSub.drop | (apply HSub.takeL; (focus ((repeat (first | exact RemL.hd | exact RemL.all | exact RemL.nil | apply RemL.tl | apply RemL.right))))) | (apply HSub.dropL; assumption) | (apply HSub.takeA; (focus ((repeat (first | exact RemL.hd | exact RemL.all | exact RemL.nil | apply RemL.tl | apply RemL.right)))); ((focus (repeat (first | exact AO.nil | apply AO.cons | (apply AO.app; assumption)))) <;> done)) | (apply HSub.nilA; ((focus (repeat (first | exact AO.nil | apply AO.cons | (apply AO.app; assumption)))) <;> done))))
      · repeat' (first | ((first | ((with_reducible apply o_call_pure (f := 38)); exact rfl) | ((with_reducible apply q_call_pure (f := 38)); exact rfl; kernel_rfl; exact rfl; (focus (repeat (first | (apply SubJ.keep; (decide +kernel)) | apply SubJ.drop | exact SubJ.nil))))); (repeat (first | exact Evs.nil | apply Evs.cons rfl)); exact (fun w _ => hnext w)) | ((with_reducible first | apply o_idx (m := i + Edit.tk k) | apply q_idx (m := i + Edit.tk k)); infer_instance; infer_instance; exact rfl; exact rfl; omega; exact rfl; omega) | ((with_reducible first | apply o_idx (m := j + Edit.wr k) | apply q_idx (m := j + Edit.wr k)); infer_instance; infer_instance; exact rfl; exact rfl; omega; exact rfl; omega) | ((with_reducible apply q_look_in (j := k - 1)); infer_instance; infer_instance; exact rfl; exact rfl; (focus (repeat (first | (apply SubJ.keep; (decide +kernel)) | apply SubJ.drop | exact SubJ.nil))); exact rfl; (first | exact Kn.old (by assumption) rfl | (apply Kn.oldA; assumption; ((focus (repeat (first | exact AO.nil | apply AO.cons | (apply AO.app; assumption)))) <;> done)) | (apply Kn.apart; assumption; ((focus (repeat (first | exact Apart.nil | apply Apart.own | (apply Apart.given; assumption) | (apply Apart.app; assumption)))) <;> done)) | (refine Kn.at ?_; ((focus (repeat (first | assumption | exact At.hd | refine At.tl ?_ | (refine At.left ?_; assumption) | refine At.right ?_))) <;> done))); exact pmap_mk bc; exact rfl; exact hlook; exact rfl) | ((with_reducible apply q_call_pureV (f := f)); exact rfl; exact rfl; exact hini; exact rfl; (focus (repeat (first | (apply SubJ.keep; (decide +kernel)) | apply SubJ.drop | exact SubJ.nil))); (repeat (first | exact Evs.nil | apply Evs.cons rfl)); exact (fun w hw => hprice w (hw.at (by ((focus (repeat (first | assumption | exact At.hd | refine At.tl ?_ | (refine At.left ?_; assumption) | refine At.right ?_))) <;> done))))) | ((with_reducible first | apply o_move | apply o_assign); exact rfl; exact rfl) | ((with_reducible first | apply o_lss | apply o_leq | apply o_eql | apply o_neq | apply o_extract); exact rfl; exact rfl; exact rfl) | ((with_reducible apply o_add8); exact rfl; exact rfl; exact rfl; (constructor <;> omega)) | ((with_reducible first | apply c_seq | apply c_block | apply c_region | apply c_nil | apply c_ret | apply c_exit | apply c_scope | apply c_label | apply c_unroll | apply c_skip)) | ((with_reducible apply c_cond_t); exact rfl; exact tT_) | ((with_reducible apply c_cond_f); exact rfl; exact fF_) | ((with_reducible first | apply e_then | apply e_then_ret | apply e_then_exit | apply e_in | apply e_in_ret | apply e_in_same | apply e_ng | apply e_ng_ret | apply e_ng_exit)) | ((with_reducible apply c_regionD0 (id := 14) []); kernel_rfl; kernel_rfl) | ((with_reducible apply c_regionD0 (id := 15) []); kernel_rfl; kernel_rfl) | ((with_reducible apply q_nil); try simp only [ents, List.cons_append, List.nil_append]) | ((with_reducible first | apply q_move | apply q_assign); exact rfl; exact rfl) | ((with_reducible apply gdq_load); first | refine wq_load (h := ?_) | refine wq_loadAll (h := ?_) | refine wq_loadC (h := ?_) | refine wq_ldV (h := ?_) | refine wq_ldF (h := ?_)) | ((with_reducible first | apply q_lss | apply q_leq | apply q_eql | apply q_neq | apply q_extract); exact rfl; exact rfl; exact rfl) | ((with_reducible apply q_add); exact rfl; exact rfl; exact rfl; (constructor <;> omega)) | ((with_reducible apply q_pick_t); exact rfl; exact tT_; exact rfl; exact rfl) | ((with_reducible first | apply q_drop_t | apply q_take_t); infer_instance; exact rfl; exact rfl; (first | exact Int.cast_ofNat_Int.symm | exact rfl | omega); (first | assumption | omega | (simp only [List.length_drop, List.length_take, List.length_append]; omega)); exact rfl) | ((with_reducible apply q_idx); infer_instance; infer_instance; exact rfl; exact rfl; (first | exact rfl | omega); exact rfl; (first | assumption | omega | decide)) | ((with_reducible first | apply h_run | apply h_skip_none); exact rfl; exact gG_) | ((with_reducible apply gdq_store); first | refine wq_store1 (h := ?_) | refine wq_storeA (h := ?_) | refine wq_store1E (h := ?_) | refine wq_storeAE (h := ?_)) | ((with_reducible apply q_alloc); exact rfl; intro _))
        refine l_again (k + 1) ⟨by omega, ?_⟩ (by omega) ?_ ?_
        · have hne : k ≠ K := fun e => hbest (by
            have := (Edit.best_ok hf.2.1).2
            rw [← e, List.drop_drop, List.drop_drop] at this
            omega)
          omega
        · (repeat (first | exact FSub.nil | refine FSub.cons rfl ?_))
        · ((try dsimp only); repeat (first | exact HSub.nil rfl | (apply HSub.take; (repeat (first | exact Rem.hd | apply Rem.tl | apply Rem.right))) | exact HSub.same | apply HSub.drop | (apply HSub.takeL; (focus ((repeat (first | exact RemL.hd | exact RemL.all | exact RemL.nil | apply RemL.tl | apply RemL.right))))) | (apply HSub.dropL; assumption) | (apply HSub.takeA; (focus ((repeat (first | exact RemL.hd | exact RemL.all | exact RemL.nil | apply RemL.tl | apply RemL.right)))); ((focus (repeat (first | exact AO.nil | apply AO.cons | (apply AO.app; assumption)))) <;> done)) | (apply HSub.nilA; ((focus (repeat (first | exact AO.nil | apply AO.cons | (apply AO.app; assumption)))) <;> done))))
    · have hno : Edit.ok k (a.drop i) (b.drop j) = false := by simpa using hok
      repeat' (first | ((first | ((with_reducible apply o_call_pure (f := 38)); exact rfl) | ((with_reducible apply q_call_pure (f := 38)); exact rfl; kernel_rfl; exact rfl; (focus (repeat (first | (apply SubJ.keep; (decide +kernel)) | apply SubJ.drop | exact SubJ.nil))))); (repeat (first | exact Evs.nil | apply Evs.cons rfl)); exact (fun w _ => hnext w)) | ((with_reducible first | apply o_move | apply o_assign); exact rfl; exact rfl) | ((with_reducible first | apply o_lss | apply o_leq | apply o_eql | apply o_neq | apply o_extract); exact rfl; exact rfl; exact rfl) | ((with_reducible apply o_add8); exact rfl; exact rfl; exact rfl; (constructor <;> omega)) | ((with_reducible first | apply c_seq | apply c_block | apply c_region | apply c_nil | apply c_ret | apply c_exit | apply c_scope | apply c_label | apply c_unroll | apply c_skip)) | ((with_reducible apply c_cond_t); exact rfl; exact tT_) | ((with_reducible apply c_cond_f); exact rfl; exact fF_) | ((with_reducible first | apply e_then | apply e_then_ret | apply e_then_exit | apply e_in | apply e_in_ret | apply e_in_same | apply e_ng | apply e_ng_ret | apply e_ng_exit)) | ((with_reducible apply c_regionD0 (id := 14) []); kernel_rfl; kernel_rfl) | ((with_reducible apply c_regionD0 (id := 15) []); kernel_rfl; kernel_rfl) | ((with_reducible apply q_nil); try simp only [ents, List.cons_append, List.nil_append]) | ((with_reducible first | apply q_move | apply q_assign); exact rfl; exact rfl) | ((with_reducible first | apply q_lss | apply q_leq | apply q_eql | apply q_neq | apply q_extract); exact rfl; exact rfl; exact rfl) | ((with_reducible apply q_pick_f); exact rfl; exact fF_; exact rfl; exact rfl) | ((with_reducible first | apply q_drop_t | apply q_take_t); infer_instance; exact rfl; exact rfl; (first | exact Int.cast_ofNat_Int.symm | exact rfl | omega); (first | assumption | omega | (simp only [List.length_drop, List.length_take, List.length_append]; omega)); exact rfl) | ((with_reducible apply h_skip); exact rfl; exact gG_; exact rfl) | ((with_reducible apply gdq_store); first | refine wq_store1 (h := ?_) | refine wq_storeA (h := ?_) | refine wq_store1E (h := ?_) | refine wq_storeAE (h := ?_)) | ((with_reducible apply q_alloc); exact rfl; intro _))
      refine l_again (k + 1) ⟨by omega, ?_⟩ (by omega) ?_ ?_
      · have hne : k ≠ K := fun e => hok (by rw [e]; exact (Edit.best_ok hf.2.1).1)
        omega
      · (repeat (first | exact FSub.nil | refine FSub.cons rfl ?_))
      · ((try dsimp only); repeat (first | exact HSub.nil rfl | (apply HSub.take; (repeat (first | exact Rem.hd | apply Rem.tl | apply Rem.right))) | exact HSub.same | apply HSub.drop | (apply HSub.takeL; (focus ((repeat (first | exact RemL.hd | exact RemL.all | exact RemL.nil | apply RemL.tl | apply RemL.right))))) | (apply HSub.dropL; assumption) | (apply HSub.takeA; (focus ((repeat (first | exact RemL.hd | exact RemL.all | exact RemL.nil | apply RemL.tl | apply RemL.right)))); ((focus (repeat (first | exact AO.nil | apply AO.cons | (apply AO.app; assumption)))) <;> done)) | (apply HSub.nilA; ((focus (repeat (first | exact AO.nil | apply AO.cons | (apply AO.app; assumption)))) <;> done))))
  · rw [decide_eq_false hgo]
    have hrn : (rowOf c a b 0).length = b.length + 1 := rowOf_len _ _ _ _
    obtain ⟨b1, cap1, sl1, g1, g2⟩ := hrow 0 (Nat.zero_le _)
    have c1 := (Pat.flat encS_len ss.reverse s0).one g1 rfl
    have c2 := (Pat.flat encI_len (rowOf c a b 0) sl1).one (rowOf_get c a b 0 (Nat.zero_le _)) rfl
    have hp1 : 0 < ss.length := by omega
    have hp2 : 0 < (rowOf c a b 0).length := by omega
    have hend : Edit.path c a b = done := by
      rw [← hpath, List.drop_of_length_le (by omega), List.drop_of_length_le (by omega), Edit.path_nil, List.append_nil]
    rw [hend]
    repeat' (first | ((with_reducible first | apply c_seq | apply c_block | apply c_region | apply c_nil | apply c_ret | apply c_exit | apply c_scope | apply c_label | apply c_unroll | apply c_skip)) | ((with_reducible apply c_cond_f); exact rfl; exact fF_) | ((with_reducible first | apply e_then | apply e_then_ret | apply e_then_exit | apply e_in | apply e_in_ret | apply e_in_same | apply e_ng | apply e_ng_ret | apply e_ng_exit)) | ((with_reducible apply c_regionD0 (id := 18) []); kernel_rfl; kernel_rfl) | ((with_reducible apply q_nil); try simp only [ents, List.cons_append, List.nil_append]) | ((with_reducible first | apply q_move | apply q_assign); exact rfl; exact rfl) | ((with_reducible apply gdq_load); first | refine wq_load (h := ?_) | refine wq_loadAll (h := ?_) | refine wq_loadC (h := ?_) | refine wq_ldV (h := ?_) | refine wq_ldF (h := ?_)) | ((with_reducible apply q_idx); infer_instance; infer_instance; exact rfl; exact rfl; (first | exact rfl | omega); exact rfl; (first | assumption | omega | decide)))
    apply r_body; apply res3 Try.results16; exact rV_; exact rV_; exact rV_; intro w' hw
    exact ⟨_, N, rfl, ⟨ad, capd, by simp, hO, hO.own⟩, hw.sub (by ((try dsimp only); repeat (first | exact HSub.nil rfl | (apply HSub.take; (repeat (first | exact Rem.hd | apply Rem.tl | apply Rem.right))) | exact HSub.same | apply HSub.drop | (apply HSub.takeL; (focus ((repeat (first | exact RemL.hd | exact RemL.all | exact RemL.nil | apply RemL.tl | apply RemL.right))))) | (apply HSub.dropL; assumption) | (apply HSub.takeA; (focus ((repeat (first | exact RemL.hd | exact RemL.all | exact RemL.nil | apply RemL.tl | apply RemL.right)))); ((focus (repeat (first | exact AO.nil | apply AO.cons | (apply AO.app; assumption)))) <;> done)) | (apply HSub.nilA; ((focus (repeat (first | exact AO.nil | apply AO.cons | (apply AO.app; assumption)))) <;> done))))), hO.own⟩
theorem path_bad {c : Edit.Cs} {a b : Edit.T} (h : ¬ (c.ok ∧ a.length ≤ 60 ∧ b.length ≤ 60)) (w : World) : Calls Try.prog 16 #[str a, str b, costV c] w fun e w' => e = .returned (.tuple #[.slice none 0 0, .int .i64 0, .int .i64 (chk c a b)]) ∧ Below w.heap.size w w' := by
  have hk := chk_bad h
  refine f_enter3 Try.func16 rfl Try.ntmps16 rfl (Rep.start w) ?_
  repeat' (first | ((first | ((with_reducible apply o_call_pure (f := 31)); exact rfl) | ((with_reducible apply q_call_pure (f := 31)); exact rfl; kernel_rfl; exact rfl; (focus (repeat (first | (apply SubJ.keep; (decide +kernel)) | apply SubJ.drop | exact SubJ.nil))))); (repeat (first | exact Evs.nil | apply Evs.cons rfl)); exact (fun w _ => checked_calls c a b w)) | ((with_reducible first | apply o_move | apply o_assign); exact rfl; exact rfl) | ((with_reducible apply gdo_load); first | refine wo_load (h := ?_) | refine wo_loadAll (h := ?_) | refine wo_loadC (h := ?_) | refine wo_ldV (h := ?_) | refine wo_ldF (h := ?_)) | ((with_reducible first | apply o_lss | apply o_leq | apply o_eql | apply o_neq | apply o_extract); exact rfl; exact rfl; exact rfl) | ((with_reducible apply o_box); exact rfl; exact rfl; exact rfl; intro _) | ((with_reducible first | apply c_seq | apply c_block | apply c_region | apply c_nil | apply c_ret | apply c_exit | apply c_scope | apply c_label | apply c_unroll | apply c_skip)) | ((with_reducible apply c_cond_t); exact rfl; exact tT_) | ((with_reducible first | apply e_then | apply e_then_ret | apply e_then_exit | apply e_in | apply e_in_ret | apply e_in_same | apply e_ng | apply e_ng_ret | apply e_ng_exit)))
  apply r_body; apply res3 Try.results16; exact rV_; exact rV_; exact rV_; intro w' hw
  exact ⟨rfl, hw.below (by simp)⟩
end Go.Proofs.Ytgkejkfodigdiaa
