/-
  A part of the proofs of this seat: what some of the program's functions compute, shown by walks through their code. Conditions: the hypotheses that each theorem names. (Its blocks of tactics were laid by a small program.)
-/
import Derived.Test.YteilhjglohahoaaQK
import Derived.Test.YteilhjglohahoaaQ5
set_option linter.unusedSimpArgs false
set_option linter.unusedVariables false
namespace Go.Proofs.Yteilhjglohahoaa
open Go Go.Sx Go.RowKit
attribute [local irreducible] WL WC WQ WR St Exit.then Exit.inBlock Exit.noGoto bodyPost roundPost beginK YR RG BM Calls B AgainD MeetD
/-! ## what Sort calls -/
def cntM (c : List (Int × Nat)) : List (Value × Value) := c.map fun p => (.int .i64 p.1, .int .i64 p.2)
theorem cntM_mk {c : List (Int × Nat)} (h : (c.map Prod.fst).Nodup) : MK (.int .i64) (cntM c) := by
  refine ⟨fun p hp => ?_, ?_⟩
  · obtain ⟨s, _, rfl⟩ := List.mem_map.1 hp
    rfl
  · have e : (cntM c).map Prod.fst = (c.map Prod.fst).map (fun x => Value.int .i64 x) := by simp [cntM, Function.comp_def]
    rw [e]
    exact List.pairwise_map.2 (h.imp fun hne e => hne (by cases e; rfl))
theorem cntM_set (c : List (Int × Nat)) (k : Nat) (x : Int) (n : Nat) : cntM (c.set k (x, n + 1)) = (cntM c).set k (.int .i64 x, .int .i64 ((n : Int) + 1)) := by simp [cntM, List.map_set]
theorem cntM_app (c : List (Int × Nat)) (x : Int) (n : Nat) : cntM (c ++ [(x, n + 1)]) = cntM c ++ [(.int .i64 x, .int .i64 ((n : Int) + 1))] := by simp [cntM]
/-- The counts of what was fed. -/
def cntOK (c : List (Int × Nat)) (fed : List Int) : Prop := (c.map Prod.fst).Nodup ∧ (∀ p ∈ c, p.2 = fed.count p.1) ∧ ∀ x ∈ fed, x ∈ c.map Prod.fst
theorem cntOK.set {c : List (Int × Nat)} {fed : List Int} {k n : Nat} {x : Int} (h : cntOK c fed) (hk : c[k]? = some (x, n)) : cntOK (c.set k (x, n + 1)) (fed ++ [x]) := by
  obtain ⟨h1, h2, h3⟩ := h
  have e : (c.set k (x, n + 1)).map Prod.fst = c.map Prod.fst := by
    rw [List.map_set]
    apply List.ext_getElem?
    intro i
    rw [List.getElem?_set]
    split
    · rename_i e; subst e
      split
      · simp [hk]
      · rename_i hlt; rw [List.getElem?_eq_none (by omega)]
    · rfl
  refine ⟨by rw [e]; exact h1, fun p hp => ?_, fun y hy => ?_⟩
  · obtain ⟨i, hi⟩ := List.getElem?_of_mem hp
    rw [List.getElem?_set] at hi
    rw [List.count_append, List.count_singleton]
    split at hi
    · rename_i e1; subst e1
      split at hi
      · cases hi
        have := h2 (x, n) (List.mem_of_getElem? hk)
        simp only [] at this ⊢
        simp [← this]
      · cases hi
    · rename_i hne
      have hm := h2 p (List.mem_of_getElem? hi)
      have hx : p.1 ≠ x := by
        intro e2
        have a1 : (c.map Prod.fst)[i]? = some x := by simp [hi, e2]
        have a2 : (c.map Prod.fst)[k]? = some x := by simp [hk]
        obtain ⟨b1, c1⟩ := List.getElem?_eq_some_iff.1 a1
        obtain ⟨b2, c2⟩ := List.getElem?_eq_some_iff.1 a2
        have hp2 := List.pairwise_iff_getElem.1 h1
        rcases Nat.lt_trichotomy i k with hl | hl | hl
        · exact hp2 i k b1 b2 hl (by rw [c1, c2])
        · exact hne hl.symm
        · exact hp2 k i b2 b1 hl (by rw [c1, c2])
      have : (x == p.1) = false := by simp; exact fun e => hx e.symm
      simp [this, hm]
  · rw [e]
    rcases List.mem_append.1 hy with hy | hy
    · exact h3 y hy
    · simp at hy; subst hy
      exact List.mem_map.2 ⟨_, List.mem_of_getElem? hk, rfl⟩
theorem cntOK.new {c : List (Int × Nat)} {fed : List Int} {x : Int} (h : cntOK c fed) (hx : x ∉ c.map Prod.fst) : cntOK (c ++ [(x, 0 + 1)]) (fed ++ [x]) := by
  obtain ⟨h1, h2, h3⟩ := h
  have h0 : fed.count x = 0 := List.count_eq_zero.2 fun hm => hx (h3 x hm)
  refine ⟨?_, fun p hp => ?_, fun y hy => ?_⟩
  · rw [List.map_append, List.nodup_append]
    refine ⟨h1, by simp, fun a ha b hb e => ?_⟩
    simp at hb; subst hb; subst e; exact hx ha
  · rcases List.mem_append.1 hp with hp | hp
    · rw [h2 p hp, List.count_append, List.count_singleton]
      have : p.1 ≠ x := fun e => hx (List.mem_map.2 ⟨p, hp, e⟩)
      have : (x == p.1) = false := by simp; exact fun e => this e.symm
      simp [this]
    · simp at hp; subst hp
      simp [h0]
  · rw [List.map_append]
    rcases List.mem_append.1 hy with hy | hy
    · exact List.mem_append_left _ (h3 y hy)
    · exact List.mem_append_right _ (by simpa using hy)
set_option maxHeartbeats 1000000 in
theorem feedable_calls {bm : Nat} {l : List Seq.Seat} {iv : Value} {items : List Int} (w : World) (hb : w.heap[bm]? = some (MO (seatM l))) (hnd : (l.map Seq.Seat.stop).Nodup) (hi : SV w 1 encI iv items) (hn : items.length ≤ 2000) :
    Calls Try.prog 43 #[.map (some bm), iv] w fun e w' => e = .returned (.int .i64 (Seq.feedF l [] items)) ∧ Below w.heap.size w w' := by
  obtain ⟨a0, c0, rfl, hc0, hop⟩ := hi.open
  refine f_enter2 Try.func43 rfl Try.ntmps43 rfl (Rep.start w) ?_
  repeat' (first | ((with_reducible apply o_lenM (m := seatM l)); infer_instance; exact rfl; (first | exact Kn.old (by assumption) rfl | (apply Kn.oldA; assumption; ((focus (repeat (first | exact AO.nil | apply AO.cons | (apply AO.app; assumption)))) <;> done)) | (apply Kn.apart; assumption; ((focus (repeat (first | exact Apart.nil | apply Apart.own | (apply Apart.given; assumption) | (apply Apart.app; assumption)))) <;> done)) | (refine Kn.at ?_; ((focus (repeat (first | assumption | exact At.hd | refine At.tl ?_ | (refine At.left ?_; assumption) | refine At.right ?_))) <;> done))); exact rfl) | ((with_reducible first | apply o_move | apply o_assign | apply o_faddr0 | apply o_not_d); exact rfl; exact rfl) | ((with_reducible apply o_len); infer_instance; exact rfl; exact rfl) | ((with_reducible apply o_makeMap); infer_instance; exact rfl; exact rfl; intro _) | ((with_reducible first | apply c_seq | apply c_block | apply c_region | apply c_nil | apply c_ret | apply c_exit | apply c_unroll | apply c_skip)) | ((with_reducible first | apply e_then | apply e_then_ret | apply e_then_exit | apply e_in | apply e_in_ret | apply e_in_same)))
  rename_i bc
  apply c_loop (σ := Nat × List (Int × Nat)) (Fs := fun t => [(15, .int .i64 t.1), (14, .int .i64 items.length), (13, .slice a0 items.length c0), (5, .map (some bc)), (0, .map (some bm))])
    (Ls := fun t => [⟨bc, MO (cntM t.2), true⟩]) (I := fun t => t.1 ≤ items.length ∧ cntOK t.2 (items.take t.1) ∧ Seq.feedF l [] items = Seq.feedF l (items.take t.1) (items.drop t.1)) (μ := fun t => items.length - t.1) (s0 := (0, []))
  · exact ⟨Nat.zero_le _, ⟨by simp, by simp, by simp⟩, by simp⟩
  · (repeat (first | exact FSub.nil | refine FSub.cons rfl ?_))
  · ((try dsimp only); repeat (first | exact HSub.nil rfl | (apply HSub.take; (repeat (first | exact Rem.hd | apply Rem.tl | apply Rem.right))) | exact HSub.same | (apply HSub.takeL; ((focus (repeat (first | exact RemL.hd | exact RemL.all | exact RemL.nil | apply RemL.tl | apply RemL.right))) <;> done)) | apply HSub.drop | (apply HSub.takeL; (focus ((repeat (first | exact RemL.hd | exact RemL.all | exact RemL.nil | apply RemL.tl | apply RemL.right))))) | (apply HSub.takeA; (first | exact RemL.hd | exact RemL.all); ((focus (repeat (first | exact AO.nil | apply AO.cons | (apply AO.app; assumption)))) <;> done)) | (apply HSub.dropL; assumption) | (apply HSub.takeA; (focus ((repeat (first | exact RemL.hd | exact RemL.all | exact RemL.nil | apply RemL.tl | apply RemL.right)))); ((focus (repeat (first | exact AO.nil | apply AO.cons | (apply AO.app; assumption)))) <;> done)) | (apply HSub.nilA; ((focus (repeat (first | exact AO.nil | apply AO.cons | (apply AO.app; assumption)))) <;> done))))
  rintro ⟨i, c⟩ ⟨hi', hcnt, hfeed⟩
  dsimp only at hi' hcnt hfeed ⊢
  by_cases hlt : i < items.length
  · obtain ⟨x, hx⟩ : ∃ x, items[i]? = some x := ⟨_, List.getElem?_eq_getElem hlt⟩
    obtain ⟨b, off, cc, e, fz, rfl, hk, hp⟩ := hop (by omega)
    have g1 := hp.one hx rfl
    have hcl : (items.take i).count x ≤ 2000 := by
      have := List.count_le_length (a := x) (l := items.take i)
      have h2 : (items.take i).length ≤ 2000 := by rw [List.length_take]; omega
      omega
    rw [drop_at hx, Seq.feedF] at hfeed
    cases hf : Seq.findF l x with
    | none =>
      rw [hf] at hfeed
      simp only [] at hfeed
      rw [hfeed]
      repeat' (first | ((with_reducible apply o_lookT_out (m := seatM l)); infer_instance; infer_instance; infer_instance; exact rfl; exact rfl; (first | exact Kn.old (by assumption) rfl | (apply Kn.oldA; assumption; ((focus (repeat (first | exact AO.nil | apply AO.cons | (apply AO.app; assumption)))) <;> done)) | (apply Kn.apart; assumption; ((focus (repeat (first | exact Apart.nil | apply Apart.own | (apply Apart.given; assumption) | (apply Apart.app; assumption)))) <;> done)) | (refine Kn.at ?_; ((focus (repeat (first | assumption | exact At.hd | refine At.tl ?_ | (refine At.left ?_; assumption) | refine At.right ?_))) <;> done))); exact seatM_mk hnd; exact rfl; exact seatM_out hf; exact rfl) | ((with_reducible first | apply o_move | apply o_assign | apply o_faddr0 | apply o_not_d); exact rfl; exact rfl) | ((with_reducible apply gdo_load); first | refine wo_load (h := ?_) | refine wo_loadAll (h := ?_) | refine wo_loadC (h := ?_) | refine wo_ldV (h := ?_) | refine wo_ldF (h := ?_)) | ((with_reducible first | apply o_lss | apply o_geq | apply o_extract); exact rfl; exact rfl; exact rfl) | ((with_reducible apply o_not); exact rfl; exact rfl) | ((with_reducible first | apply o_alloc | apply o_makeMap0); exact rfl; intro _) | ((with_reducible apply gdo_store); first | refine wo_store1 (h := ?_) | refine wo_storeA (h := ?_)) | ((with_reducible apply o_idx); infer_instance; infer_instance; exact rfl; exact rfl; (first | exact rfl | omega); exact rfl; (first | assumption | omega | decide)) | ((with_reducible first | apply c_seq | apply c_block | apply c_region | apply c_nil | apply c_ret | apply c_exit | apply c_unroll | apply c_skip)) | ((with_reducible apply c_cond_t); exact rfl; exact tT_) | ((with_reducible first | apply e_then | apply e_then_ret | apply e_then_exit | apply e_in | apply e_in_ret | apply e_in_same)))
      apply r_body; apply res1 Try.results43; exact rV_; intro w' hw
      exact ⟨rfl, hw.below (by simp)⟩
    | some s =>
      rw [hf] at hfeed
      simp only [] at hfeed
      obtain ⟨j, hj, hst⟩ := findF_some hf
      have hlook := seatM_in hj hst
      by_cases hin : x ∈ c.map Prod.fst
      · obtain ⟨⟨x', m⟩, hpm, rfl⟩ := List.mem_map.1 hin
        obtain ⟨k, hkc⟩ := List.getElem?_of_mem hpm
        have hcm := hcnt.2.1 _ hpm
        dsimp only at *
        have hlc : (cntM c)[k]? = some (.int .i64 x', .int .i64 m) := by simp [cntM, hkc]
        rw [← hcm] at hfeed hcl
        by_cases hfull : s.vol ≤ m
        · rw [if_pos hfull] at hfeed
          rw [hfeed]
          repeat' (first | ((with_reducible apply o_lookT_in (m := seatM l) (j := j)); infer_instance; infer_instance; exact rfl; exact rfl; (first | exact Kn.old (by assumption) rfl | (apply Kn.oldA; assumption; ((focus (repeat (first | exact AO.nil | apply AO.cons | (apply AO.app; assumption)))) <;> done)) | (apply Kn.apart; assumption; ((focus (repeat (first | exact Apart.nil | apply Apart.own | (apply Apart.given; assumption) | (apply Apart.app; assumption)))) <;> done)) | (refine Kn.at ?_; ((focus (repeat (first | assumption | exact At.hd | refine At.tl ?_ | (refine At.left ?_; assumption) | refine At.right ?_))) <;> done))); exact seatM_mk hnd; exact rfl; exact hlook; exact rfl) | ((with_reducible apply o_look_in (m := cntM c) (j := k)); infer_instance; infer_instance; exact rfl; exact rfl; (first | exact Kn.old (by assumption) rfl | (apply Kn.oldA; assumption; ((focus (repeat (first | exact AO.nil | apply AO.cons | (apply AO.app; assumption)))) <;> done)) | (apply Kn.apart; assumption; ((focus (repeat (first | exact Apart.nil | apply Apart.own | (apply Apart.given; assumption) | (apply Apart.app; assumption)))) <;> done)) | (refine Kn.at ?_; ((focus (repeat (first | assumption | exact At.hd | refine At.tl ?_ | (refine At.left ?_; assumption) | refine At.right ?_))) <;> done))); exact cntM_mk hcnt.1; exact rfl; exact hlc; exact rfl) | ((with_reducible first | apply o_move | apply o_assign | apply o_faddr0 | apply o_not_d); exact rfl; exact rfl) | ((with_reducible apply gdo_load); first | refine wo_load (h := ?_) | refine wo_loadAll (h := ?_) | refine wo_loadC (h := ?_) | refine wo_ldV (h := ?_) | refine wo_ldF (h := ?_)) | ((with_reducible first | apply o_lss | apply o_geq | apply o_extract); exact rfl; exact rfl; exact rfl) | ((with_reducible apply o_not); exact rfl; exact rfl) | ((with_reducible first | apply o_alloc | apply o_makeMap0); exact rfl; intro _) | ((with_reducible apply gdo_store); first | refine wo_store1 (h := ?_) | refine wo_storeA (h := ?_)) | ((with_reducible apply o_idx); infer_instance; infer_instance; exact rfl; exact rfl; (first | exact rfl | omega); exact rfl; (first | assumption | omega | decide)) | ((with_reducible first | apply c_seq | apply c_block | apply c_region | apply c_nil | apply c_ret | apply c_exit | apply c_unroll | apply c_skip)) | ((with_reducible apply c_cond_t); exact rfl; exact tT_) | ((with_reducible apply c_cond_f); exact rfl; exact fF_) | ((with_reducible first | apply e_then | apply e_then_ret | apply e_then_exit | apply e_in | apply e_in_ret | apply e_in_same)))
          apply r_body; apply res1 Try.results43; exact rV_; intro w' hw
          exact ⟨rfl, hw.below (by simp)⟩
        · rw [if_neg hfull, ← take_snoc hx] at hfeed
          repeat' (first | ((with_reducible apply o_lookT_in (m := seatM l) (j := j)); infer_instance; infer_instance; exact rfl; exact rfl; (first | exact Kn.old (by assumption) rfl | (apply Kn.oldA; assumption; ((focus (repeat (first | exact AO.nil | apply AO.cons | (apply AO.app; assumption)))) <;> done)) | (apply Kn.apart; assumption; ((focus (repeat (first | exact Apart.nil | apply Apart.own | (apply Apart.given; assumption) | (apply Apart.app; assumption)))) <;> done)) | (refine Kn.at ?_; ((focus (repeat (first | assumption | exact At.hd | refine At.tl ?_ | (refine At.left ?_; assumption) | refine At.right ?_))) <;> done))); exact seatM_mk hnd; exact rfl; exact hlook; exact rfl) | ((with_reducible apply o_look_in (m := cntM c) (j := k)); infer_instance; infer_instance; exact rfl; exact rfl; (first | exact Kn.old (by assumption) rfl | (apply Kn.oldA; assumption; ((focus (repeat (first | exact AO.nil | apply AO.cons | (apply AO.app; assumption)))) <;> done)) | (apply Kn.apart; assumption; ((focus (repeat (first | exact Apart.nil | apply Apart.own | (apply Apart.given; assumption) | (apply Apart.app; assumption)))) <;> done)) | (refine Kn.at ?_; ((focus (repeat (first | assumption | exact At.hd | refine At.tl ?_ | (refine At.left ?_; assumption) | refine At.right ?_))) <;> done))); exact cntM_mk hcnt.1; exact rfl; exact hlc; exact rfl) | ((with_reducible apply o_mapSet (m := cntM c) (j := k)); infer_instance; infer_instance; exact rfl; exact rfl; exact rfl; ((focus (repeat (first | assumption | exact At.hd | refine At.tl ?_ | (refine At.left ?_; assumption) | refine At.right ?_))) <;> done); exact cntM_mk hcnt.1; exact rfl; exact hlc; (repeat (first | exact Upd.hd | apply Upd.tl | apply Upd.right))) | ((with_reducible first | apply o_move | apply o_assign | apply o_faddr0 | apply o_not_d); exact rfl; exact rfl) | ((with_reducible apply gdo_load); first | refine wo_load (h := ?_) | refine wo_loadAll (h := ?_) | refine wo_loadC (h := ?_) | refine wo_ldV (h := ?_) | refine wo_ldF (h := ?_)) | ((with_reducible first | apply o_lss | apply o_geq | apply o_extract); exact rfl; exact rfl; exact rfl) | ((with_reducible apply o_not); exact rfl; exact rfl) | ((with_reducible apply o_add); exact rfl; exact rfl; exact rfl; (constructor <;> omega)) | ((with_reducible first | apply o_alloc | apply o_makeMap0); exact rfl; intro _) | ((with_reducible apply gdo_store); first | refine wo_store1 (h := ?_) | refine wo_storeA (h := ?_)) | ((with_reducible apply o_idx); infer_instance; infer_instance; exact rfl; exact rfl; (first | exact rfl | omega); exact rfl; (first | assumption | omega | decide)) | ((with_reducible first | apply c_seq | apply c_block | apply c_region | apply c_nil | apply c_ret | apply c_exit | apply c_unroll | apply c_skip)) | ((with_reducible apply c_cond_t); exact rfl; exact tT_) | ((with_reducible apply c_cond_f); exact rfl; exact fF_) | ((with_reducible first | apply e_then | apply e_then_ret | apply e_then_exit | apply e_in | apply e_in_ret | apply e_in_same)))
          refine l_again (i + 1, c.set k (x', m + 1)) ⟨by dsimp only; omega, by dsimp only; rw [take_snoc hx]; exact hcnt.set hkc, hfeed⟩ (by dsimp only; omega) ?_ ?_
          · (repeat (first | exact FSub.nil | refine FSub.cons rfl ?_))
          · simp only [cntM_set]; ((try dsimp only); repeat (first | exact HSub.nil rfl | (apply HSub.take; (repeat (first | exact Rem.hd | apply Rem.tl | apply Rem.right))) | exact HSub.same | (apply HSub.takeL; ((focus (repeat (first | exact RemL.hd | exact RemL.all | exact RemL.nil | apply RemL.tl | apply RemL.right))) <;> done)) | apply HSub.drop | (apply HSub.takeL; (focus ((repeat (first | exact RemL.hd | exact RemL.all | exact RemL.nil | apply RemL.tl | apply RemL.right))))) | (apply HSub.takeA; (first | exact RemL.hd | exact RemL.all); ((focus (repeat (first | exact AO.nil | apply AO.cons | (apply AO.app; assumption)))) <;> done)) | (apply HSub.dropL; assumption) | (apply HSub.takeA; (focus ((repeat (first | exact RemL.hd | exact RemL.all | exact RemL.nil | apply RemL.tl | apply RemL.right)))); ((focus (repeat (first | exact AO.nil | apply AO.cons | (apply AO.app; assumption)))) <;> done)) | (apply HSub.nilA; ((focus (repeat (first | exact AO.nil | apply AO.cons | (apply AO.app; assumption)))) <;> done))))
      · have h0 : (items.take i).count x = 0 := List.count_eq_zero.2 fun hm => hin (hcnt.2.2 x hm)
        have hlo : ∀ p ∈ cntM c, p.1 ≠ .int .i64 x := by
          intro p hp' e
          obtain ⟨q, hq, rfl⟩ := List.mem_map.1 hp'
          cases e
          exact hin (List.mem_map.2 ⟨q, hq, rfl⟩)
        rw [h0] at hfeed
        by_cases hfull : s.vol ≤ ((0 : Nat) : Int)
        · rw [if_pos hfull] at hfeed
          rw [hfeed]
          repeat' (first | ((with_reducible apply o_lookT_in (m := seatM l) (j := j)); infer_instance; infer_instance; exact rfl; exact rfl; (first | exact Kn.old (by assumption) rfl | (apply Kn.oldA; assumption; ((focus (repeat (first | exact AO.nil | apply AO.cons | (apply AO.app; assumption)))) <;> done)) | (apply Kn.apart; assumption; ((focus (repeat (first | exact Apart.nil | apply Apart.own | (apply Apart.given; assumption) | (apply Apart.app; assumption)))) <;> done)) | (refine Kn.at ?_; ((focus (repeat (first | assumption | exact At.hd | refine At.tl ?_ | (refine At.left ?_; assumption) | refine At.right ?_))) <;> done))); exact seatM_mk hnd; exact rfl; exact hlook; exact rfl) | ((with_reducible apply o_look_out (m := cntM c)); infer_instance; infer_instance; infer_instance; exact rfl; exact rfl; (first | exact Kn.old (by assumption) rfl | (apply Kn.oldA; assumption; ((focus (repeat (first | exact AO.nil | apply AO.cons | (apply AO.app; assumption)))) <;> done)) | (apply Kn.apart; assumption; ((focus (repeat (first | exact Apart.nil | apply Apart.own | (apply Apart.given; assumption) | (apply Apart.app; assumption)))) <;> done)) | (refine Kn.at ?_; ((focus (repeat (first | assumption | exact At.hd | refine At.tl ?_ | (refine At.left ?_; assumption) | refine At.right ?_))) <;> done))); exact cntM_mk hcnt.1; exact rfl; exact hlo; exact rfl) | ((with_reducible first | apply o_move | apply o_assign | apply o_faddr0 | apply o_not_d); exact rfl; exact rfl) | ((with_reducible apply gdo_load); first | refine wo_load (h := ?_) | refine wo_loadAll (h := ?_) | refine wo_loadC (h := ?_) | refine wo_ldV (h := ?_) | refine wo_ldF (h := ?_)) | ((with_reducible first | apply o_lss | apply o_geq | apply o_extract); exact rfl; exact rfl; exact rfl) | ((with_reducible apply o_not); exact rfl; exact rfl) | ((with_reducible first | apply o_alloc | apply o_makeMap0); exact rfl; intro _) | ((with_reducible apply gdo_store); first | refine wo_store1 (h := ?_) | refine wo_storeA (h := ?_)) | ((with_reducible apply o_idx); infer_instance; infer_instance; exact rfl; exact rfl; (first | exact rfl | omega); exact rfl; (first | assumption | omega | decide)) | ((with_reducible first | apply c_seq | apply c_block | apply c_region | apply c_nil | apply c_ret | apply c_exit | apply c_unroll | apply c_skip)) | ((with_reducible apply c_cond_t); exact rfl; exact tT_) | ((with_reducible apply c_cond_f); exact rfl; exact fF_) | ((with_reducible first | apply e_then | apply e_then_ret | apply e_then_exit | apply e_in | apply e_in_ret | apply e_in_same)))
          all_goals first
            | (exfalso; omega)
            | (apply r_body; apply res1 Try.results43; exact rV_; intro w' hw; exact ⟨rfl, hw.below (by simp)⟩)
        · rw [if_neg hfull, ← take_snoc hx] at hfeed
          repeat' (first | ((with_reducible apply o_lookT_in (m := seatM l) (j := j)); infer_instance; infer_instance; exact rfl; exact rfl; (first | exact Kn.old (by assumption) rfl | (apply Kn.oldA; assumption; ((focus (repeat (first | exact AO.nil | apply AO.cons | (apply AO.app; assumption)))) <;> done)) | (apply Kn.apart; assumption; ((focus (repeat (first | exact Apart.nil | apply Apart.own | (apply Apart.given; assumption) | (apply Apart.app; assumption)))) <;> done)) | (refine Kn.at ?_; ((focus (repeat (first | assumption | exact At.hd | refine At.tl ?_ | (refine At.left ?_; assumption) | refine At.right ?_))) <;> done))); exact seatM_mk hnd; exact rfl; exact hlook; exact rfl) | ((with_reducible apply o_look_out (m := cntM c)); infer_instance; infer_instance; infer_instance; exact rfl; exact rfl; (first | exact Kn.old (by assumption) rfl | (apply Kn.oldA; assumption; ((focus (repeat (first | exact AO.nil | apply AO.cons | (apply AO.app; assumption)))) <;> done)) | (apply Kn.apart; assumption; ((focus (repeat (first | exact Apart.nil | apply Apart.own | (apply Apart.given; assumption) | (apply Apart.app; assumption)))) <;> done)) | (refine Kn.at ?_; ((focus (repeat (first | assumption | exact At.hd | refine At.tl ?_ | (refine At.left ?_; assumption) | refine At.right ?_))) <;> done))); exact cntM_mk hcnt.1; exact rfl; exact hlo; exact rfl) | ((with_reducible apply o_mapNew (m := cntM c)); infer_instance; infer_instance; exact rfl; exact rfl; exact rfl; exact cntM_mk hcnt.1; exact rfl; exact hlo; (repeat (first | exact Upd.hd | apply Upd.tl | apply Upd.right))) | ((with_reducible first | apply o_move | apply o_assign | apply o_faddr0 | apply o_not_d); exact rfl; exact rfl) | ((with_reducible apply gdo_load); first | refine wo_load (h := ?_) | refine wo_loadAll (h := ?_) | refine wo_loadC (h := ?_) | refine wo_ldV (h := ?_) | refine wo_ldF (h := ?_)) | ((with_reducible first | apply o_lss | apply o_geq | apply o_extract); exact rfl; exact rfl; exact rfl) | ((with_reducible apply o_not); exact rfl; exact rfl) | ((with_reducible apply o_add); exact rfl; exact rfl; exact rfl; (constructor <;> omega)) | ((with_reducible first | apply o_alloc | apply o_makeMap0); exact rfl; intro _) | ((with_reducible apply gdo_store); first | refine wo_store1 (h := ?_) | refine wo_storeA (h := ?_)) | ((with_reducible apply o_idx); infer_instance; infer_instance; exact rfl; exact rfl; (first | exact rfl | omega); exact rfl; (first | assumption | omega | decide)) | ((with_reducible first | apply c_seq | apply c_block | apply c_region | apply c_nil | apply c_ret | apply c_exit | apply c_unroll | apply c_skip)) | ((with_reducible apply c_cond_t); exact rfl; exact tT_) | ((with_reducible apply c_cond_f); exact rfl; exact fF_) | ((with_reducible first | apply e_then | apply e_then_ret | apply e_then_exit | apply e_in | apply e_in_ret | apply e_in_same)))
          all_goals first
            | (exfalso; omega)
            | (refine l_again (i + 1, c ++ [(x, 0 + 1)]) ⟨by dsimp only; omega, by dsimp only; rw [take_snoc hx]; exact hcnt.new hin, hfeed⟩ (by dsimp only; omega) ?_ ?_
               · (repeat (first | exact FSub.nil | refine FSub.cons rfl ?_))
               · simp only [cntM_app]; ((try dsimp only); repeat (first | exact HSub.nil rfl | (apply HSub.take; (repeat (first | exact Rem.hd | apply Rem.tl | apply Rem.right))) | exact HSub.same | (apply HSub.takeL; ((focus (repeat (first | exact RemL.hd | exact RemL.all | exact RemL.nil | apply RemL.tl | apply RemL.right))) <;> done)) | apply HSub.drop | (apply HSub.takeL; (focus ((repeat (first | exact RemL.hd | exact RemL.all | exact RemL.nil | apply RemL.tl | apply RemL.right))))) | (apply HSub.takeA; (first | exact RemL.hd | exact RemL.all); ((focus (repeat (first | exact AO.nil | apply AO.cons | (apply AO.app; assumption)))) <;> done)) | (apply HSub.dropL; assumption) | (apply HSub.takeA; (focus ((repeat (first | exact RemL.hd | exact RemL.all | exact RemL.nil | apply RemL.tl | apply RemL.right)))); ((focus (repeat (first | exact AO.nil | apply AO.cons | (apply AO.app; assumption)))) <;> done)) | (apply HSub.nilA; ((focus (repeat (first | exact AO.nil | apply AO.cons | (apply AO.app; assumption)))) <;> done)))))
  · have e : Seq.feedF l [] items = 0 := by rw [hfeed, List.drop_of_length_le (by omega)]; rfl
    rw [e]
    repeat' (first | ((with_reducible first | apply o_move | apply o_assign | apply o_faddr0 | apply o_not_d); exact rfl; exact rfl) | ((with_reducible first | apply o_lss | apply o_geq | apply o_extract); exact rfl; exact rfl; exact rfl) | ((with_reducible first | apply c_seq | apply c_block | apply c_region | apply c_nil | apply c_ret | apply c_exit | apply c_unroll | apply c_skip)) | ((with_reducible apply c_cond_f); exact rfl; exact fF_) | ((with_reducible first | apply e_then | apply e_then_ret | apply e_then_exit | apply e_in | apply e_in_ret | apply e_in_same)))
    apply r_body; apply res1 Try.results43; exact rV_; intro w' hw
    exact ⟨rfl, hw.below (by simp)⟩
end Go.Proofs.Yteilhjglohahoaa
