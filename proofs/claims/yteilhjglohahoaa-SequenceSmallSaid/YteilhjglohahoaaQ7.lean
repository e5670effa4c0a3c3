/-
  A part of the proofs of this seat: what some of the program's functions compute, shown by walks through their code. Conditions: the hypotheses that each theorem names. (Its blocks of tactics were laid by a small program.)
-/
import Derived.Test.YteilhjglohahoaaQ6
set_option linter.unusedSimpArgs false
set_option linter.unusedVariables false
namespace Go.Proofs.Yteilhjglohahoaa
open Go Go.Sx Go.RowKit
attribute [local irreducible] WL WC WQ WR St Exit.then Exit.inBlock Exit.noGoto bodyPost roundPost beginK YR RG BM Calls B AgainD MeetD
/-! ## Sort -/
theorem key1_calls (s : Seq.Seat) (w : World) : Calls Try.prog 46 #[seatV s] w fun e w' => e = .returned (.int .i64 s.first) ∧ Below w.heap.size w w' := by
  refine f_enter1 Try.func46 rfl Try.ntmps46 rfl (Rep.start w) ?_
  repeat' (first | ((with_reducible first | apply o_assign | apply o_faddr0); exact rfl; exact rfl) | ((with_reducible apply gdo_load); first | refine wo_load (h := ?_) | refine wo_loadAll (h := ?_) | refine wo_loadC (h := ?_) | refine wo_ldV (h := ?_) | refine wo_ldF (h := ?_)) | ((with_reducible apply o_box); exact rfl; exact rfl; exact rfl; intro _) | ((with_reducible first | apply c_seq | apply c_block | apply c_region | apply c_nil | apply c_ret | apply c_exit | apply c_unroll | apply c_skip)) | ((with_reducible first | apply e_then | apply e_then_ret | apply e_then_exit | apply e_in | apply e_in_ret | apply e_in_same)))
  apply r_body; apply res1 Try.results46; exact rV_; intro w' hw
  exact ⟨rfl, hw.below (by simp)⟩
theorem key2_calls (s : Seq.Seat) (w : World) : Calls Try.prog 47 #[seatV s] w fun e w' => e = .returned (.int .i64 s.second) ∧ Below w.heap.size w w' := by
  refine f_enter1 Try.func47 rfl Try.ntmps47 rfl (Rep.start w) ?_
  repeat' (first | ((with_reducible first | apply o_assign | apply o_faddr0); exact rfl; exact rfl) | ((with_reducible apply gdo_load); first | refine wo_load (h := ?_) | refine wo_loadAll (h := ?_) | refine wo_loadC (h := ?_) | refine wo_ldV (h := ?_) | refine wo_ldF (h := ?_)) | ((with_reducible apply o_box); exact rfl; exact rfl; exact rfl; intro _) | ((with_reducible first | apply c_seq | apply c_block | apply c_region | apply c_nil | apply c_ret | apply c_exit | apply c_unroll | apply c_skip)) | ((with_reducible first | apply e_then | apply e_then_ret | apply e_then_exit | apply e_in | apply e_in_ret | apply e_in_same)))
  apply r_body; apply res1 Try.results47; exact rV_; intro w' hw
  exact ⟨rfl, hw.below (by simp)⟩
theorem nil_rows (n : Nat) : (List.replicate n [Value.slice none 0 0]).flatten = (List.replicate n ((none, 0, 0) : SD)).flatMap encS ++ [] := by
  rw [List.append_nil, List.flatMap_def, List.map_replicate]
  rfl
theorem LL_nils {α : Type} {E : TypeId} {k : Nat} {enc : α → List Value} : ∀ n : Nat, LL E k enc (List.replicate n ((none, 0, 0) : SD)) (List.replicate n []) []
  | 0 => LL.nil
  | n + 1 => by
    rw [List.replicate_succ, List.replicate_succ]
    exact LL.cons (s := (none, 0, 0)) (N := []) OW.nil (LL_nils n)
theorem passF_nil (n : Nat) (key : Nat → Nat) : Seq.passF n key [] = List.replicate n [] := by
  apply List.ext_getElem?
  intro i
  by_cases h : i < n <;> simp [Seq.passF, h]
theorem passF_len (n : Nat) (key : Nat → Nat) (l : List Nat) : (Seq.passF n key l).length = n := by simp [Seq.passF]
theorem passF_get {n k : Nat} (key : Nat → Nat) (l : List Nat) (h : k < n) : (Seq.passF n key l)[k]? = some (l.filter fun i => key i = k) := by simp [Seq.passF, h]
theorem passF_snoc {n : Nat} {key : Nat → Nat} {l : List Nat} {i : Nat} (h : key i < n) : Seq.passF n key (l ++ [i]) = (Seq.passF n key l).set (key i) ((l.filter fun j => key j = key i) ++ [i]) := by
  apply List.ext_getElem?
  intro k
  rw [List.getElem?_set]
  by_cases hk : k < n
  · rw [passF_get key _ hk, passF_get key _ hk]
    by_cases e : key i = k
    · subst e
      simp [passF_len, h, List.filter_append]
    · rw [if_neg e]
      simp [List.filter_append, e]
  · rw [List.getElem?_eq_none (by rw [passF_len]; omega), if_neg (by omega), List.getElem?_eq_none (by rw [passF_len]; omega)]
theorem filter_lt (key : Nat → Nat) (n : Nat) : ∀ l : List Nat, (l.filter fun i => key i < n + 1).length = (l.filter fun i => key i < n).length + (l.filter fun i => key i = n).length
  | [] => rfl
  | x :: l => by
    have ih := filter_lt key n l
    simp only [List.filter_cons, decide_eq_true_eq]
    by_cases h1 : key x < n
    · rw [if_pos (by omega), if_pos h1, if_neg (by omega)]
      simp only [List.length_cons]; omega
    · by_cases h2 : key x = n
      · rw [if_pos (by omega), if_neg h1, if_pos h2]
        simp only [List.length_cons]; omega
      · rw [if_neg (by omega), if_neg h1, if_neg h2]; exact ih
theorem passF_count (key : Nat → Nat) (l : List Nat) : ∀ n, (Seq.passF n key l).flatten.length = (l.filter fun i => key i < n).length
  | 0 => by
    have : (l.filter fun i => decide (key i < 0)) = [] := by rw [List.filter_eq_nil_iff]; simp
    rw [this]; simp [Seq.passF]
  | n + 1 => by
    have e : Seq.passF (n + 1) key l = Seq.passF n key l ++ [l.filter fun i => key i = n] := by simp [Seq.passF, List.range_succ]
    rw [e, List.flatten_append, List.length_append, passF_count key l n, filter_lt]
    simp
theorem passF_total (n : Nat) (key : Nat → Nat) (l : List Nat) : (Seq.passF n key l).flatten.length ≤ l.length := by
  rw [passF_count]; exact List.length_filter_le _ _
theorem passF_mem {n : Nat} {key : Nat → Nat} {l : List Nat} {i : Nat} (h : i ∈ (Seq.passF n key l).flatten) : i ∈ l := by
  obtain ⟨r, hr, hi⟩ := List.mem_flatten.1 h
  obtain ⟨k, _, rfl⟩ := List.mem_map.1 hr
  exact (List.mem_filter.1 hi).1
def passφ (n : Nat) (xss : List (List Nat)) (v : Value) (N : List Ent) : Prop := ∃ b a2 c2 ss M N2, v = .tuple #[.slice (some ⟨b, 0, none⟩) n n, .slice a2 xss.flatten.length c2] ∧
  LL 3 1 encN ss xss M ∧ ss.length = n ∧ OW 3 1 encN (.slice a2 xss.flatten.length c2) xss.flatten N2 ∧ N = ⟨b, Ce (ss.flatMap encS ++ []) 24, true⟩ :: (M ++ N2) ∧ (∀ x ∈ M, x.own = true) ∧ ∀ x ∈ N2, x.own = true
set_option maxHeartbeats 4000000 in
theorem pass_calls {f : FuncId} {fn : Func} [TC Try.prog f fn] {g : Seq.Seat → Int} (hinit : Try.prog.inits.idxOf? f = none) (hkey : ∀ (s : Seq.Seat) (w : World), Calls Try.prog f #[seatV s] w fun e w' => e = .returned (.int .i64 (g s)) ∧ Below w.heap.size w w')
    {bp bx bi bm : Nat} {a1 a2 a3 a4 a5 : Option Addr} {n1 n2 n3 n4 c1 c2 c3 c4 c5 : Nat} {l : List Seq.Seat} {items : List Int} {fv : Value} {fed : List Nat} (w : World)
    (hbp : w.heap[bp]? = some (Ce [.slice a1 n1 c1, .slice a2 n2 c2, .slice a3 n3 c3, .slice a4 n4 c4] 38)) (hbx : w.heap[bx]? = some (Ce [.map (some bm)] 91)) (hbi : w.heap[bi]? = some (Ce [.slice a5 items.length c5] 24))
    (hbm : w.heap[bm]? = some (MO (seatM l))) (hnd : (l.map Seq.Seat.stop).Nodup) (hi : SV w 1 encI (.slice a5 items.length c5) items) (hf : SV w 1 encN fv fed) (hn1 : 1 ≤ n1 ∧ n1 ≤ 64) (hfl : fed.length ≤ 2000)
    (hfed : ∀ i ∈ fed, ∃ x s, items[i]? = some x ∧ Seq.findF l x = some s ∧ 0 ≤ g s ∧ g s < n1) :
    Calls Try.prog 44 #[fv, .func (.func f) #[] #[], ptr bp, ptr bx, ptr bi] w fun e w' => ∃ v N, e = .returned v ∧ passφ n1 (Seq.passF n1 (Seq.keyF l items g) fed) v N ∧ Rep w w' N ∧ ∀ x ∈ N, x.own = true := by
  obtain ⟨a0, c0, rfl, hc0, hop⟩ := hf.open
  obtain ⟨_, _, e5, hc5, hopi⟩ := hi.open
  cases e5
  refine f_enter5 Try.func44 rfl Try.ntmps44 rfl (Rep.start w) ?_
  repeat' (first | ((with_reducible first | apply o_move | apply o_assign | apply o_faddr0); exact rfl; exact rfl) | ((with_reducible apply gdo_load); first | refine wo_load (h := ?_) | refine wo_loadAll (h := ?_) | refine wo_loadC (h := ?_) | refine wo_ldV (h := ?_) | refine wo_ldF (h := ?_)) | ((with_reducible apply o_len); infer_instance; exact rfl; exact rfl) | ((with_reducible apply gdo_makeSlice); refine wo_makeSlice (h := fun _ => ?_)) | ((with_reducible first | apply c_seq | apply c_block | apply c_region | apply c_nil | apply c_ret | apply c_exit | apply c_unroll | apply c_skip)) | ((with_reducible first | apply e_then | apply e_then_ret | apply e_then_exit | apply e_in | apply e_in_ret | apply e_in_same)))
  rename_i br
  simp only [nil_rows]
  apply c_loop (σ := Nat × List SD × List Ent) (Fs := fun t => [(19, .int .i64 t.1), (18, .int .i64 fed.length), (17, .slice a0 fed.length c0), (9, slc br n1), (4, ptr bi), (3, ptr bx), (2, ptr bp), (1, .func (.func f) #[] #[])])
    (Ls := fun t => ⟨br, Ce (t.2.1.flatMap encS ++ []) 24, true⟩ :: (t.2.2 ++ [])) (I := fun t => t.1 ≤ fed.length ∧ LL 3 1 encN t.2.1 (Seq.passF n1 (Seq.keyF l items g) (fed.take t.1)) t.2.2) (μ := fun t => fed.length - t.1) (s0 := (0, List.replicate n1 (none, 0, 0), []))
  · exact ⟨Nat.zero_le _, by simp only [List.take_zero]; rw [passF_nil]; exact LL_nils n1⟩
  · (repeat (first | exact FSub.nil | refine FSub.cons rfl ?_))
  · ((try dsimp only); repeat (first | exact HSub.nil rfl | (apply HSub.take; (repeat (first | exact Rem.hd | apply Rem.tl | apply Rem.right))) | exact HSub.same | (apply HSub.takeL; ((focus (repeat (first | exact RemL.hd | exact RemL.all | exact RemL.nil | apply RemL.tl | apply RemL.right))) <;> done)) | apply HSub.drop | (apply HSub.takeL; (focus ((repeat (first | exact RemL.hd | exact RemL.all | exact RemL.nil | apply RemL.tl | apply RemL.right))))) | (apply HSub.takeA; (first | exact RemL.hd | exact RemL.all); ((focus (repeat (first | exact AO.nil | apply AO.cons | (apply AO.app; assumption)))) <;> done)) | (apply HSub.dropL; assumption) | (apply HSub.takeA; (focus ((repeat (first | exact RemL.hd | exact RemL.all | exact RemL.nil | apply RemL.tl | apply RemL.right)))); ((focus (repeat (first | exact AO.nil | apply AO.cons | (apply AO.app; assumption)))) <;> done)) | (apply HSub.nilA; ((focus (repeat (first | exact AO.nil | apply AO.cons | (apply AO.app; assumption)))) <;> done))))
  rintro ⟨j, ss, M⟩ ⟨hj, hL⟩
  dsimp only at hj hL ⊢
  have hM := hL.own
  have hsl : ss.length = n1 := by rw [hL.len, passF_len]
  by_cases hlt : j < fed.length
  · obtain ⟨i, hx⟩ : ∃ i, fed[j]? = some i := ⟨_, List.getElem?_eq_getElem hlt⟩
    obtain ⟨b, off, cc, e, fz, rfl, hk, hp⟩ := hop (by omega)
    have g1 := hp.one hx rfl
    obtain ⟨x, s, hix, hfs, hg0, hg1⟩ := hfed i (List.mem_of_getElem? hx)
    have hilt := (List.getElem?_eq_some_iff.1 hix).1
    obtain ⟨b5, off5, cc5, e5, fz5, rfl, hk5, hp5⟩ := hopi (by omega)
    have g2 := hp5.one hix rfl
    obtain ⟨jj, hjj, hst⟩ := findF_some hfs
    have hlook := seatM_in hjj hst
    obtain ⟨k, hgk⟩ := Int.eq_ofNat_of_zero_le hg0
    have hkn : k < n1 := by omega
    have hkey' : Seq.keyF l items g i = k := by unfold Seq.keyF; rw [hix]; simp [hfs, hgk]
    have hcall : ∀ w, Calls Try.prog f #[seatV s] w fun e w' => e = .returned (.int .i64 (k : Int)) ∧ Below w.heap.size w w' := fun w => by rw [← hgk]; exact hkey s w
    have hget := passF_get (n := n1) (Seq.keyF l items g) (fed.take j) hkn
    obtain ⟨⟨sa, sn, sc⟩, N, M1, M2, q1, q2, rfl, q3, q4, q5⟩ := hL.at hget
    obtain ⟨_, _, eq2, hcq, _⟩ := q2.open
    cases eq2
    have hN := q2.own
    have g3 : (ss.flatMap encS ++ ([] : List Value)).toArray[0 + k * 1]? = some (.slice sa ((fed.take j).filter fun i => Seq.keyF l items g i = k).length sc) := (Pat.flat encS_len ss []).one q1 rfl
    have hfil : ((fed.take j).filter fun i => Seq.keyF l items g i = k).length ≤ 2000 := by
      have h1 := List.length_filter_le (fun i => decide (Seq.keyF l items g i = k)) (fed.take j)
      have h2 : (fed.take j).length ≤ 2000 := by rw [List.length_take]; omega
      omega
    simp only [List.append_assoc]
    repeat' (first | ((with_reducible apply q_look_in (m := seatM l) (j := jj)); infer_instance; infer_instance; exact rfl; exact rfl; (focus (repeat (first | (apply SubJ.keep; (decide +kernel)) | apply SubJ.drop | exact SubJ.nil))); exact rfl; (first | exact Kn.old (by assumption) rfl | (apply Kn.oldA; assumption; ((focus (repeat (first | exact AO.nil | apply AO.cons | (apply AO.app; assumption)))) <;> done)) | (apply Kn.apart; assumption; ((focus (repeat (first | exact Apart.nil | apply Apart.own | (apply Apart.given; assumption) | (apply Apart.app; assumption)))) <;> done)) | (refine Kn.at ?_; ((focus (repeat (first | assumption | exact At.hd | refine At.tl ?_ | (refine At.left ?_; assumption) | refine At.right ?_))) <;> done))); exact seatM_mk hnd; exact rfl; exact hlook; exact rfl) | ((with_reducible apply q_call_pureV (f := f)); exact rfl; exact rfl; exact hinit; exact rfl; (focus (repeat (first | (apply SubJ.keep; (decide +kernel)) | apply SubJ.drop | exact SubJ.nil))); (repeat (first | exact Evs.nil | apply Evs.cons rfl)); (exact fun w hw => by rw [Array.append_empty]; exact hcall w)) | (apply o_appH (enc := encN) (ys := [i]); infer_instance; infer_instance; infer_instance; exact rfl; exact encN_len; exact encN_one; exact rfl; exact rfl; exact rfl; exact q2; (repeat (first | exact RemL.hd | exact RemL.all | exact RemL.nil | apply RemL.tl | apply RemL.right)); (exact fun w hw => SV.lit [i] encN_len hw (by ((focus (repeat (first | assumption | exact At.hd | refine At.tl ?_ | (refine At.left ?_; assumption) | refine At.right ?_))) <;> done)) rfl rfl (by decide)); (constructor <;> (try simp only [List.length_cons, List.length_nil]) <;> omega); intro a' cap' N' hO') | ((apply o_storeS (enc := encS) (k := 1) (m := k) (o := 0) (xs := ss) (z := (sa, _, sc)) ((a', (((fed.take j).filter fun i => Seq.keyF l items g i = k) ++ [i]).length, cap') : SD)); infer_instance; exact rfl; exact rfl; ((focus (repeat (first | assumption | exact At.hd | refine At.tl ?_ | (refine At.left ?_; assumption) | refine At.right ?_))) <;> done); exact q1; exact encS_len; omega; exact rfl; exact rfl; (intro u hu; simp at hu; subst hu; rfl); (exact Nat.le_refl _); exact rfl; (repeat (first | exact Upd.hd | apply Upd.tl | apply Upd.right))) | ((with_reducible first | apply o_move | apply o_assign | apply o_faddr0); exact rfl; exact rfl) | ((with_reducible apply gdo_load); first | refine wo_load (h := ?_) | refine wo_loadAll (h := ?_) | refine wo_loadC (h := ?_) | refine wo_ldV (h := ?_) | refine wo_ldF (h := ?_)) | ((with_reducible apply o_lss); exact rfl; exact rfl; exact rfl) | ((with_reducible apply o_add); exact rfl; exact rfl; exact rfl; (constructor <;> omega)) | ((with_reducible apply gdo_buildSlice); refine wo_buildSlice (h := fun _ => ?_)) | ((with_reducible apply o_idx); infer_instance; infer_instance; exact rfl; exact rfl; (first | exact rfl | omega); exact rfl; (first | assumption | omega | decide)) | ((with_reducible first | apply c_seq | apply c_block | apply c_region | apply c_nil | apply c_ret | apply c_exit | apply c_unroll | apply c_skip)) | ((with_reducible apply c_cond_t); exact rfl; exact tT_) | ((with_reducible first | apply e_then | apply e_then_ret | apply e_then_exit | apply e_in | apply e_in_ret | apply e_in_same)) | ((with_reducible apply c_regionD0 (id := 5) []); kernel_rfl; kernel_rfl) | ((with_reducible apply q_nil); try simp only [ents, List.cons_append, List.nil_append]) | ((with_reducible first | apply q_move | apply q_assign | apply q_faddr0); exact rfl; exact rfl) | ((with_reducible apply gdq_load); first | refine wq_load (h := ?_) | refine wq_loadAll (h := ?_) | refine wq_loadC (h := ?_) | refine wq_ldV (h := ?_) | refine wq_ldF (h := ?_)) | ((with_reducible apply q_idx); infer_instance; infer_instance; exact rfl; exact rfl; (first | exact rfl | omega); exact rfl; (first | assumption | omega | decide)))
    have hss := passF_snoc (n := n1) (key := Seq.keyF l items g) (l := fed.take j) (i := i) (by omega)
    rw [hkey', ← take_snoc hx] at hss
    refine l_again (j + 1, ss.set k (a', (((fed.take j).filter fun i => Seq.keyF l items g i = k) ++ [i]).length, cap'), M1 ++ (N' ++ M2)) ⟨by dsimp only; omega, by dsimp only; rw [hss]; exact q5 _ _ _ hO'⟩ (by dsimp only; omega) ?_ ?_
    · (repeat (first | exact FSub.nil | refine FSub.cons rfl ?_))
    · simp only [List.append_assoc]
      ((try dsimp only); repeat (first | exact HSub.nil rfl | (apply HSub.take; (repeat (first | exact Rem.hd | apply Rem.tl | apply Rem.right))) | exact HSub.same | (apply HSub.takeL; ((focus (repeat (first | exact RemL.hd | exact RemL.all | exact RemL.nil | apply RemL.tl | apply RemL.right))) <;> done)) | apply HSub.drop | (apply HSub.takeL; (focus ((repeat (first | exact RemL.hd | exact RemL.all | exact RemL.nil | apply RemL.tl | apply RemL.right))))) | (apply HSub.takeA; (first | exact RemL.hd | exact RemL.all); ((focus (repeat (first | exact AO.nil | apply AO.cons | (apply AO.app; assumption)))) <;> done)) | (apply HSub.dropL; assumption) | (apply HSub.takeA; (focus ((repeat (first | exact RemL.hd | exact RemL.all | exact RemL.nil | apply RemL.tl | apply RemL.right)))); ((focus (repeat (first | exact AO.nil | apply AO.cons | (apply AO.app; assumption)))) <;> done)) | (apply HSub.nilA; ((focus (repeat (first | exact AO.nil | apply AO.cons | (apply AO.app; assumption)))) <;> done))))
  rw [List.take_of_length_le (by omega)] at hL
  have hflat : (Seq.passF n1 (Seq.keyF l items g) fed).flatten.length ≤ 1000000 := by
    have := passF_total n1 (Seq.keyF l items g) fed
    omega
  repeat' (first | ((first | ((with_reducible apply o_call_new (f := 45)); exact rfl) | ((with_reducible apply q_call_new (f := 45)); exact rfl; exact rfl; (focus (repeat (first | (apply SubJ.keep; (decide +kernel)) | apply SubJ.drop | exact SubJ.nil))))); (repeat (first | exact Evs.nil | apply Evs.cons rfl)); exact (fun w hw => concat_calls encN_len encN_one w (SV.atn ss encS_len hw (by ((focus (repeat (first | assumption | exact At.hd | refine At.tl ?_ | (refine At.left ?_; assumption) | refine At.right ?_))) <;> done)) hsl.symm (by omega)) (hL.sl encN_len (by (repeat (first | exact RemL.hd | exact RemL.all | exact RemL.nil | apply RemL.tl | apply RemL.right))) hw) hflat); rintro v2 N2 ⟨a6, c6, rfl, g6, o6⟩ <;> (try simp only [List.cons_append, List.nil_append])) | ((with_reducible first | apply o_move | apply o_assign | apply o_faddr0); exact rfl; exact rfl) | ((with_reducible apply o_lss); exact rfl; exact rfl; exact rfl) | ((with_reducible first | apply c_seq | apply c_block | apply c_region | apply c_nil | apply c_ret | apply c_exit | apply c_unroll | apply c_skip)) | ((with_reducible apply c_cond_f); exact rfl; exact fF_) | ((with_reducible first | apply e_then | apply e_then_ret | apply e_then_exit | apply e_in | apply e_in_ret | apply e_in_same)))
  apply r_body; apply res2 Try.results44; exact rV_; exact rV_; intro w' hw
  exact ⟨_, _, rfl, ⟨br, a6, c6, ss, M, N2, rfl, hL, hsl, g6, rfl, hM, o6⟩, hw.sub (by ((try dsimp only); repeat (first | exact HSub.nil rfl | (apply HSub.take; (repeat (first | exact Rem.hd | apply Rem.tl | apply Rem.right))) | exact HSub.same | (apply HSub.takeL; ((focus (repeat (first | exact RemL.hd | exact RemL.all | exact RemL.nil | apply RemL.tl | apply RemL.right))) <;> done)) | apply HSub.drop | (apply HSub.takeL; (focus ((repeat (first | exact RemL.hd | exact RemL.all | exact RemL.nil | apply RemL.tl | apply RemL.right))))) | (apply HSub.takeA; (first | exact RemL.hd | exact RemL.all); ((focus (repeat (first | exact AO.nil | apply AO.cons | (apply AO.app; assumption)))) <;> done)) | (apply HSub.dropL; assumption) | (apply HSub.takeA; (focus ((repeat (first | exact RemL.hd | exact RemL.all | exact RemL.nil | apply RemL.tl | apply RemL.right)))); ((focus (repeat (first | exact AO.nil | apply AO.cons | (apply AO.app; assumption)))) <;> done)) | (apply HSub.nilA; ((focus (repeat (first | exact AO.nil | apply AO.cons | (apply AO.app; assumption)))) <;> done))))), by
    intro x hx
    simp only [List.mem_cons, List.mem_append] at hx
    rcases hx with rfl | hx | hx
    · rfl
    · exact hM x hx
    · exact o6 x hx⟩
/-! plain facts -/
theorem checkF_ok {p : Seq.Plan} (h : (Seq.checkF p).2 = 0) : Seq.checkF p = (0, 0) ∧ Seq.machineOk p.caps ∧ p.seats.length ≤ 1000 ∧ (p.seats.map Seq.Seat.stop).Nodup ∧ ∀ s ∈ p.seats, (0 ≤ s.first ∧ s.first < p.caps.length) ∧ (0 ≤ s.second ∧ s.second < p.caps.length) ∧ (1 ≤ s.vol ∧ s.vol ≤ 10000) := by
  unfold Seq.checkF at h ⊢
  by_cases hm : Seq.machineOk p.caps
  case neg => rw [if_pos hm] at h; cases h
  rw [if_neg (fun g => g hm)] at h ⊢
  by_cases hb : 1000 < p.seats.length
  · rw [if_pos hb] at h; cases h
  rw [if_neg hb] at h ⊢
  cases hw : Seq.wrongF [] 0 (p.seats.map Seq.Seat.asStop) with
  | some i => rw [hw] at h; cases h
  | none =>
  rw [hw] at h
  simp only [] at h ⊢
  cases hmi : Seq.misF p.caps.length none 0 p.seats with
  | some i => rw [hmi] at h; cases h
  | none =>
  rw [hmi] at h
  simp only [] at h ⊢
  by_cases hl : p.first.length ≠ p.caps.length ∨ p.second.length ≠ p.caps.length
  · rw [if_pos hl] at h; cases h
  rw [if_neg hl] at h ⊢
  cases hd : Seq.diffF 0 p.first p.second (Seq.loadsF Seq.Seat.first p.caps.length p.seats) (Seq.loadsF Seq.Seat.second p.caps.length p.seats) with
  | some i => rw [hd] at h; cases h
  | none =>
  rw [hd] at h
  simp only [] at h ⊢
  cases ho : Seq.overF 0 p.caps (Seq.loadsF Seq.Seat.first p.caps.length p.seats) (Seq.loadsF Seq.Seat.second p.caps.length p.seats) with
  | some i => rw [ho] at h; cases h
  | none =>
  have hr := Seq.wrongF_none.1 hw
  refine ⟨rfl, hm, by omega, ?_, fun s hs => ?_⟩
  · have := hr.2.1
    simpa [List.map_map, Function.comp_def, Seq.Seat.asStop] using this
  · have g1 := Seq.misF_range hmi s hs
    have g2 := hr.1 s.asStop (List.mem_map.2 ⟨s, hs, rfl⟩)
    unfold Seq.Stop.ok Seq.Seat.asStop at g2
    simp only [] at g2
    exact ⟨g1.1, g1.2, g2.2⟩
theorem feedF_zero {l : List Seq.Seat} : ∀ {items fed : List Int}, Seq.feedF l fed items = 0 → ∀ x ∈ items, ∃ s, Seq.findF l x = some s
  | [], _, _, x, hx => by cases hx
  | y :: r, fed, h, x, hx => by
    rw [Seq.feedF] at h
    cases hf : Seq.findF l y with
    | none => rw [hf] at h; cases h
    | some s =>
      rw [hf] at h
      simp only [] at h
      split at h
      · cases h
      · rcases List.mem_cons.1 hx with rfl | hx
        · exact ⟨s, hf⟩
        · exact feedF_zero h x hx
end Go.Proofs.Yteilhjglohahoaa
