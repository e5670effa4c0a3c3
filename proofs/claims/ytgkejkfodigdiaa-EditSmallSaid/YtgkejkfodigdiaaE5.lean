/-
  A part of the proofs of this seat: what some of the program's functions compute, shown by walks through their code. Conditions: the hypotheses that each theorem names. (Its blocks of tactics were laid by a small program.)
-/
import Derived.Test.YtgkejkfodigdiaaE4
set_option linter.unusedSimpArgs false
set_option linter.unusedVariables false
namespace Go.Proofs.Ytgkejkfodigdiaa
open Go Go.Sx Go.RowKit
attribute [local irreducible] WL WC WQ WR St Exit.then Exit.inBlock Exit.noGoto bodyPost roundPost beginK YR RG BM Calls B
/-! ## rows kept, turned round -/
theorem clone_calls {w : World} {br : Nat} {R : List Int} (hsv : SV w 1 encI (slc br R.length) R) (hn : R.length ≤ 1000) :
    Calls Try.prog 35 #[slc br R.length] w fun e w' => ∃ v N, e = .returned v ∧ (∃ a cap, v = .slice a R.length cap ∧ OW 3 1 encI (.slice a R.length cap) R N ∧ ∀ x ∈ N, x.own = true) ∧ Rep w w' N ∧ ∀ x ∈ N, x.own = true := by
  refine f_enter1 Try.func35 rfl Try.ntmps35 rfl (Rep.start w) ?_
  repeat' (first | ((with_reducible first | apply o_move | apply o_assign); exact rfl; exact rfl) | ((with_reducible apply o_eql_n); infer_instance; exact rfl; exact rfl; exact rfl) | ((with_reducible apply gdo_buildSlice); refine wo_buildSlice (h := fun _ => ?_)) | ((with_reducible first | apply c_seq | apply c_block | apply c_region | apply c_nil | apply c_ret | apply c_exit | apply c_unroll | apply c_skip)) | ((with_reducible apply c_cond_f); exact rfl; exact fF_) | ((with_reducible first | apply e_then | apply e_then_ret | apply e_then_exit | apply e_in | apply e_in_ret | apply e_in_same)))
  rename_i b0
  have hx0 : OW 3 1 encI (.slice (some ⟨b0, 0, none⟩) 0 0) [] [⟨b0, Ce [] 3, true⟩] := OW.row (xs := []) (s := []) rfl ⟨Nat.le_refl _, by decide⟩
  repeat' (first | (apply o_appH (enc := encI); infer_instance; infer_instance; infer_instance; exact rfl; exact encI_len; exact encI_one; exact rfl; exact rfl; exact rfl; assumption; (repeat (first | exact RemL.hd | exact RemL.all | exact RemL.nil | apply RemL.tl | apply RemL.right)); (exact fun w hw => (hsv.keep hw (by ((focus (repeat (first | exact AO.nil | apply AO.cons | (apply AO.app; assumption)))) <;> done)))); (first | decide | (constructor <;> (try simp only [List.length_cons, List.length_nil]) <;> omega) | (constructor <;> simp <;> omega)); intro _ _ _ _) | ((with_reducible first | apply o_move | apply o_assign); exact rfl; exact rfl) | ((with_reducible first | apply c_seq | apply c_block | apply c_region | apply c_nil | apply c_ret | apply c_exit | apply c_unroll | apply c_skip)) | ((with_reducible first | apply e_then | apply e_then_ret | apply e_then_exit | apply e_in | apply e_in_ret | apply e_in_same)))
  rename_i a cap N hO
  simp only [List.nil_append] at hO ⊢
  apply r_body; apply res1 Try.results35; exact rV_; intro w' hw
  exact ⟨_, N, rfl, ⟨a, cap, rfl, hO, hO.own⟩, by simpa using hw, hO.own⟩
theorem pcb_calls {w0 w : World} {L0 : List Ent} {b10 br : Nat} {a : Option Addr} {cap : Nat} {ss : List SD} {N M : List Ent} {xss : List (List Int)} {R : List Int} {s : List Value} {fl : Bool} (hw0 : Rep w0 w ((⟨b10, Ce [.slice a ss.length cap] 71, fl⟩ :: (N ++ M)) ++ L0))
    (hO : OW 69 1 encS (.slice a ss.length cap) ss N) (hL : LL 3 1 encI ss xss M) (hr : At L0 br (Ce (R.flatMap encI ++ s) 3)) (hn : R.length ≤ 1000) (hs : ss.length ≤ 1000) :
    Calls Try.prog 34 #[slc br R.length, ptr b10] w fun e w' => e = .returned (.tuple #[]) ∧ ∃ a' cap' s1 N' M', OW 69 1 encS (.slice a' (ss ++ [s1]).length cap') (ss ++ [s1]) N' ∧ LL 3 1 encI (ss ++ [s1]) (xss ++ [R]) M' ∧ Rep w0 w' ((⟨b10, Ce [.slice a' (ss ++ [s1]).length cap'] 71, fl⟩ :: (N' ++ M')) ++ L0) := by
  simp only [List.cons_append, List.append_assoc] at hw0
  refine f_enterF2 Try.func34 rfl Try.ntmps34 rfl (hw0) ?_
  repeat' (first | ((with_reducible apply c_regionD (id := 0) [(2, fun v N => ∃ a cap, v = .slice a R.length cap ∧ OW 3 1 encI (.slice a R.length cap) R N ∧ ∀ x ∈ N, x.own = true)] 4); kernel_rfl; kernel_rfl; simp only [List.take_succ_cons, List.take_zero, List.drop_succ_cons, List.drop_zero]) | ((first | ((with_reducible apply o_call_new (f := 35)); exact rfl) | ((with_reducible apply q_call_new (f := 35)); exact rfl; exact rfl; (focus (repeat (first | (apply SubJ.keep; (decide +kernel)) | apply SubJ.drop | exact SubJ.nil))))); (repeat (first | exact Evs.nil | apply Evs.cons rfl)); exact (fun w hw => clone_calls (SV.of_kn (hw.at (by ((focus (repeat (first | assumption | exact At.hd | refine At.tl ?_ | (refine At.left ?_; assumption) | refine At.right ?_))) <;> done))) ⟨Nat.le_refl _, by omega⟩ (Pat.flat encI_len R s)) hn); rintro v N1 ⟨a1, cap1, rfl, h1, o1⟩ <;> (try simp only [List.cons_append, List.nil_append])) | (apply o_appH (enc := encS); infer_instance; infer_instance; infer_instance; exact rfl; exact encS_len; exact encS_one; exact rfl; exact rfl; exact rfl; assumption; (repeat (first | exact RemL.hd | exact RemL.all | exact RemL.nil | apply RemL.tl | apply RemL.right)); (exact fun w hw => (SV.lit [(a1, R.length, cap1)] encS_len hw (by ((focus (repeat (first | assumption | exact At.hd | refine At.tl ?_ | (refine At.left ?_; assumption) | refine At.right ?_))) <;> done)) rfl rfl (by decide))); (first | decide | (constructor <;> (try simp only [List.length_cons, List.length_nil]) <;> omega) | (constructor <;> simp <;> omega)); intro _ _ _ _) | ((with_reducible apply gdo_store); first | refine wo_store1 (h := ?_) | refine wo_storeA (h := ?_)) | ((with_reducible first | apply c_seq | apply c_block | apply c_region | apply c_nil | apply c_ret | apply c_exit | apply c_unroll | apply c_skip)) | ((with_reducible apply q_nil); try simp only [ents, List.cons_append, List.nil_append]) | ((with_reducible apply q_move); exact rfl; exact rfl) | ((with_reducible apply gdq_load); first | refine wq_load (h := ?_) | refine wq_loadAll (h := ?_) | refine wq_loadC (h := ?_) | refine wq_ldV (h := ?_) | refine wq_ldF (h := ?_)) | ((with_reducible apply gdq_buildSlice); refine wq_buildSlice (h := fun _ => ?_)))
  rename_i a' cap' N' hO'
  apply r_body'; apply res0 Try.results34; intro w' hw
  refine ⟨rfl, a', cap', (a1, R.length, cap1), N', M ++ N1, hO', hL.snoc h1, hw.sub ?_⟩
  simp only [List.cons_append, List.append_assoc]
  ((try dsimp only); repeat (first | exact HSub.nil rfl | (apply HSub.take; (repeat (first | exact Rem.hd | apply Rem.tl | apply Rem.right))) | exact HSub.same | apply HSub.drop | (apply HSub.takeL; (focus ((repeat (first | exact RemL.hd | exact RemL.all | exact RemL.nil | apply RemL.tl | apply RemL.right))))) | (apply HSub.dropL; assumption) | (apply HSub.takeA; (focus ((repeat (first | exact RemL.hd | exact RemL.all | exact RemL.nil | apply RemL.tl | apply RemL.right)))); ((focus (repeat (first | exact AO.nil | apply AO.cons | (apply AO.app; assumption)))) <;> done)) | (apply HSub.nilA; ((focus (repeat (first | exact AO.nil | apply AO.cons | (apply AO.app; assumption)))) <;> done))))
/-- Rows turned round. -/
theorem reverse_calls {w : World} {b : Nat} {ss : List SD} {s : List Value} {cap : Nat} (h : w.heap[b]? = some (Ce (ss.flatMap encS ++ s) 69)) (hn : ss.length ≤ 1000) :
    Calls Try.prog 36 #[.slice (some ⟨b, 0, none⟩) ss.length cap] w fun e w' => e = .returned (.tuple #[]) ∧ Rep w w' [⟨b, Ce (ss.reverse.flatMap encS ++ s) 69, false⟩] := by
  refine f_enter1 Try.func36 rfl Try.ntmps36 rfl (Rep.given h) ?_
  repeat' (first | ((with_reducible first | apply o_move | apply o_assign); exact rfl; exact rfl) | ((with_reducible first | apply o_add | apply o_sub); exact rfl; exact rfl; exact rfl; (constructor <;> omega)) | ((with_reducible apply o_len); infer_instance; exact rfl; exact rfl) | ((with_reducible first | apply c_seq | apply c_block | apply c_region | apply c_nil | apply c_ret | apply c_exit | apply c_unroll | apply c_skip)) | ((with_reducible first | apply e_then | apply e_then_ret | apply e_then_exit | apply e_in | apply e_in_ret | apply e_in_same)))
  apply c_loop (σ := Nat × Int × List SD) (Fs := fun t => [(3, .int .i64 t.2.1), (2, .int .i64 t.1), (0, .slice (some ⟨b, 0, none⟩) ss.length cap)]) (Ls := fun t => [⟨b, Ce (t.2.2.flatMap encS ++ s) 69, false⟩])
    (I := fun t => (t.2.1 = ss.length - 1 - t.1 ∧ t.1 ≤ ss.length ∧ (t.1 : Int) ≤ t.2.1 + 1 + 1) ∧ t.2.2.length = ss.length ∧ ∀ u, u < ss.length → t.2.2[u]? = if u < t.1 ∨ ss.length ≤ u + t.1 then ss[ss.length - 1 - u]? else ss[u]?) (μ := fun t => ss.length - t.1) (s0 := (0, (ss.length : Int) - 1, ss))
  · refine ⟨by simp only []; omega, rfl, fun u hu => ?_⟩
    simp only []
    rw [if_neg (by omega)]
  · (repeat (first | exact FSub.nil | refine FSub.cons rfl ?_))
  · ((try dsimp only); repeat (first | exact HSub.nil rfl | (apply HSub.take; (repeat (first | exact Rem.hd | apply Rem.tl | apply Rem.right))) | exact HSub.same | apply HSub.drop | (apply HSub.takeL; (focus ((repeat (first | exact RemL.hd | exact RemL.all | exact RemL.nil | apply RemL.tl | apply RemL.right))))) | (apply HSub.dropL; assumption) | (apply HSub.takeA; (focus ((repeat (first | exact RemL.hd | exact RemL.all | exact RemL.nil | apply RemL.tl | apply RemL.right)))); ((focus (repeat (first | exact AO.nil | apply AO.cons | (apply AO.app; assumption)))) <;> done)) | (apply HSub.nilA; ((focus (repeat (first | exact AO.nil | apply AO.cons | (apply AO.app; assumption)))) <;> done))))
  rintro ⟨i, jj, t⟩ ⟨⟨hj, hi, hij⟩, hl, ht⟩
  simp only [] at hj hi hij hl ht ⊢
  by_cases hlt : (i : Int) < jj
  · obtain ⟨j, rfl⟩ : ∃ j : Nat, jj = j := ⟨jj.toNat, by omega⟩
    obtain ⟨x, hx⟩ : ∃ x, t[i]? = some x := ⟨_, List.getElem?_eq_getElem (by omega)⟩
    obtain ⟨y, hy⟩ : ∃ y, t[j]? = some y := ⟨_, List.getElem?_eq_getElem (by omega)⟩
    have gx := (Pat.flat encS_len t s).one hx rfl
    have gy := (Pat.flat encS_len t s).one hy rfl
    have hy' : (t.set i y)[j]? = some y := by rw [List.getElem?_set_ne (by omega)]; exact hy
    repeat' (first | ((apply q_storeS (enc := encS) (kl := 1) (m := i) (o := 0) (xs := t) (z := x) y); infer_instance; exact rfl; exact rfl; ((focus (repeat (first | assumption | exact At.hd | refine At.tl ?_ | (refine At.left ?_; assumption) | refine At.right ?_))) <;> done); exact hx; exact encS_len; omega; exact rfl; exact rfl; (intro u hu; simp at hu; subst hu; rfl); (exact Nat.le_refl _); exact rfl; (repeat (first | exact Upd.hd | apply Upd.tl | apply Upd.right))) | ((apply q_storeS (enc := encS) (kl := 1) (m := j) (o := 0) (xs := t.set i y) (z := y) x); infer_instance; exact rfl; exact rfl; ((focus (repeat (first | assumption | exact At.hd | refine At.tl ?_ | (refine At.left ?_; assumption) | refine At.right ?_))) <;> done); exact hy'; exact encS_len; omega; exact rfl; exact rfl; (intro u hu; simp at hu; subst hu; rfl); (exact Nat.le_refl _); exact rfl; (repeat (first | exact Upd.hd | apply Upd.tl | apply Upd.right))) | ((with_reducible first | apply o_move | apply o_assign); exact rfl; exact rfl) | ((with_reducible apply o_lss); exact rfl; exact rfl; exact rfl) | ((with_reducible first | apply o_add | apply o_sub); exact rfl; exact rfl; exact rfl; (constructor <;> omega)) | ((with_reducible first | apply c_seq | apply c_block | apply c_region | apply c_nil | apply c_ret | apply c_exit | apply c_unroll | apply c_skip)) | ((with_reducible apply c_cond_t); exact rfl; exact tT_) | ((with_reducible first | apply e_then | apply e_then_ret | apply e_then_exit | apply e_in | apply e_in_ret | apply e_in_same)) | ((with_reducible apply c_regionD0 (id := 3) []); kernel_rfl; kernel_rfl) | ((with_reducible apply q_nil); try simp only [ents, List.cons_append, List.nil_append]) | ((with_reducible first | apply q_move | apply q_assign); exact rfl; exact rfl) | ((with_reducible apply gdq_load); first | refine wq_load (h := ?_) | refine wq_loadAll (h := ?_) | refine wq_loadC (h := ?_) | refine wq_ldV (h := ?_) | refine wq_ldF (h := ?_)) | ((with_reducible apply q_idx); infer_instance; infer_instance; exact rfl; exact rfl; (first | exact rfl | omega); exact rfl; (first | assumption | omega | decide)))
    have hxs : ss[i]? = some x := by rw [ht i (by omega), if_neg (by omega)] at hx; exact hx
    have hys : ss[j]? = some y := by rw [ht j (by omega), if_neg (by omega)] at hy; exact hy
    refine l_again (i + 1, (j : Int) - 1, (t.set i y).set j x) ⟨by simp only []; omega, by simp only [List.length_set]; exact hl, fun u hu => ?_⟩ (by simp only []; omega) ?_ ?_
    · simp only []
      by_cases e1 : u = j
      · subst e1
        rw [List.getElem?_set_self (by simp; omega), if_pos (by omega), ← hxs]
        congr 1; omega
      · rw [List.getElem?_set_ne (fun h => e1 h.symm)]
        by_cases e2 : u = i
        · subst e2
          rw [List.getElem?_set_self (by omega), if_pos (by omega), ← hys]
          congr 1; omega
        · rw [List.getElem?_set_ne (fun h => e2 h.symm), ht u hu]
          by_cases hc : u < i ∨ ss.length ≤ u + i
          · rw [if_pos hc, if_pos (by omega)]
          · rw [if_neg hc, if_neg (by omega)]
    · (repeat (first | exact FSub.nil | refine FSub.cons rfl ?_))
    · ((try dsimp only); repeat (first | exact HSub.nil rfl | (apply HSub.take; (repeat (first | exact Rem.hd | apply Rem.tl | apply Rem.right))) | exact HSub.same | apply HSub.drop | (apply HSub.takeL; (focus ((repeat (first | exact RemL.hd | exact RemL.all | exact RemL.nil | apply RemL.tl | apply RemL.right))))) | (apply HSub.dropL; assumption) | (apply HSub.takeA; (focus ((repeat (first | exact RemL.hd | exact RemL.all | exact RemL.nil | apply RemL.tl | apply RemL.right)))); ((focus (repeat (first | exact AO.nil | apply AO.cons | (apply AO.app; assumption)))) <;> done)) | (apply HSub.nilA; ((focus (repeat (first | exact AO.nil | apply AO.cons | (apply AO.app; assumption)))) <;> done))))
  · repeat' (first | ((with_reducible first | apply o_move | apply o_assign); exact rfl; exact rfl) | ((with_reducible apply o_lss); exact rfl; exact rfl; exact rfl) | ((with_reducible first | apply c_seq | apply c_block | apply c_region | apply c_nil | apply c_ret | apply c_exit | apply c_unroll | apply c_skip)) | ((with_reducible apply c_cond_f); exact rfl; exact fF_) | ((with_reducible first | apply e_then | apply e_then_ret | apply e_then_exit | apply e_in | apply e_in_ret | apply e_in_same)))
    apply r_body'; apply res0 Try.results36; intro w' hw
    refine ⟨rfl, ?_⟩
    have : t = ss.reverse := by
      apply List.ext_getElem?
      intro u
      by_cases hu : u < ss.length
      · rw [ht u hu, List.getElem?_reverse hu]
        split
        · rfl
        · rw [show ss.length - 1 - u = u from by omega]
      · rw [List.getElem?_eq_none (by omega), List.getElem?_eq_none (by simp; omega)]
    rw [← this]; exact hw
end Go.Proofs.Ytgkejkfodigdiaa
