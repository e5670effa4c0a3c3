/-
  A part of the proofs of this seat: what some of the program's functions compute, shown by walks through their code. Conditions: the hypotheses that each theorem names. (Its blocks of tactics were laid by a small program.)
-/
import Derived.Test.YtcocnhfbdcapbaaT15
set_option linter.unusedSimpArgs false
set_option linter.unusedVariables false
namespace Go.Proofs.Ytcocnhfbdcapbaa
open Go Go.Sx Go.RowKit
attribute [local irreducible] WL WC WQ St Exit.then Exit.inBlock bodyPost roundPost beginK YR RG BM Calls B findUp findDn Runs firstT collect
theorem findUp_is {p : Int → Prop} {a d : Int} {n : Nat} (h1 : a ≤ d) (h2 : d < a + n) (h3 : p d) (h4 : ∀ x, a ≤ x → x < d → ¬ p x) : findUp p a n = some d := by
  cases h : findUp p a n with
  | none => exact absurd h3 (findUp_none p n a h d h1 h2)
  | some c =>
    obtain ⟨k1, k2, k3, k4⟩ := findUp_some p n a c h
    by_cases e1 : c < d
    · exact absurd k3 (h4 c k1 e1)
    · by_cases e2 : d < c
      · exact absurd h3 (k4 d h1 e2)
      · rw [show c = d from by omega]
theorem findDn_is {p : Int → Prop} {a d : Int} {n : Nat} (h1 : d ≤ a) (h2 : a - n < d) (h3 : p d) (h4 : ∀ x, x ≤ a → d < x → ¬ p x) : findDn p a n = some d := by
  cases h : findDn p a n with
  | none => exact absurd h3 (findDn_none p n a h d h1 h2)
  | some c =>
    obtain ⟨k1, k2, k3, k4⟩ := findDn_some p n a c h
    by_cases e1 : d < c
    · exact absurd k3 (h4 c k1 e1)
    · by_cases e2 : c < d
      · exact absurd h3 (k4 d h1 e2)
      · rw [show c = d from by omega]
def mon : Leg := ⟨7, 1, 2, 600, 120, 30, 0, 1⟩
def mon10 : Leg := ⟨7, 1, 2, 10, 120, 30, 0, 1⟩
theorem mon_right : Right mon := by rw [right_iff]; simp [mon]
theorem mon_u8 : U8 mon := by unfold U8; simp [mon]
theorem mon10_u8 : U8 mon10 := by unfold U8; simp [mon10]
theorem one_bit (d : Int) : ((1 : Int) / 2 ^ (d % 7).toNat) % 2 ≠ 0 ↔ d % 7 = 0 := by
  obtain ⟨k, hk⟩ : ∃ k, k = d % 7 := ⟨_, rfl⟩
  have : k = 0 ∨ k = 1 ∨ k = 2 ∨ k = 3 ∨ k = 4 ∨ k = 5 ∨ k = 6 := by omega
  rw [← hk]
  rcases this with rfl | rfl | rfl | rfl | rfl | rfl | rfl <;> decide
theorem mon_on (d : Int) : onOK mon d ↔ d % 7 = 0 ∧ 0 ≤ d ∧ d ≤ 730484 ∧ 1440 * d + 720 ≤ 1051898399 := by
  unfold onOK
  rw [runs_def]
  show Right mon ∧ _ ∧ ((1 : Int) / 2 ^ (d % 7).toNat) % 2 ≠ 0 ∧ (30 : Int) ≤ 1440 * d + 600 ∧ 1440 * d + 600 + 120 ≤ 1051898399 ↔ _
  rw [one_bit]
  constructor
  · rintro ⟨_, h1, h2, h3, h4⟩; omega
  · rintro ⟨h1, h2, h3, h4⟩; exact ⟨mon_right, by omega, h1, by omega, by omega⟩
theorem mon10_on : ¬ onOK mon10 0 := by
  unfold onOK
  rw [runs_def]
  rintro ⟨_, _, _, h, _⟩
  have h' : (30 : Int) ≤ 1440 * 0 + 10 := h
  omega
theorem firstT_in {t : Int} (h1 : 0 ≤ t) (h2 : t ≤ 1051898399) : firstT t = t / 1440 := by
  have := firstT_bd t; omega
theorem on_mon0 : onD mon 0 = some 0 := by unfold onD; rw [B_true ((mon_on 0).2 (by omega))]; rfl
theorem on_mon1 : onD mon 1 = none := by unfold onD; rw [B_false (fun h => by have := (mon_on 1).1 h; omega)]; rfl
theorem on_mon10 : onD mon10 0 = none := by unfold onD; rw [B_false mon10_on]; rfl
theorem okRN_mon (a d : Int) : okRN mon a d ↔ onOK mon d ∧ (a < 0 ∨ a ≤ 1440 * d + 600 - 30) := Iff.rfl
theorem okRL_mon (a d : Int) : okRL mon a d ↔ onOK mon d ∧ 1440 * d + 600 + 120 ≤ a := Iff.rfl
theorem okRI_mon (a b d : Int) : okRI mon a b d ↔ onOK mon d ∧ a ≤ 1440 * d + 600 ∧ 1440 * d + 600 ≤ b := Iff.rfl
theorem next_mon0 : nextF mon 0 = some 0 := by
  rw [next_eq]; unfold rnextF; rw [firstT_in (by omega) (by omega)]
  exact findUp_is (by omega) (by omega) ((okRN_mon 0 0).2 ⟨(mon_on 0).2 (by omega), by omega⟩) (fun x h1 h2 => by omega)
theorem next_mon570 : nextF mon 570 = some 0 := by
  rw [next_eq]; unfold rnextF; rw [firstT_in (by omega) (by omega)]
  exact findUp_is (by omega) (by omega) ((okRN_mon 570 0).2 ⟨(mon_on 0).2 (by omega), by omega⟩) (fun x h1 h2 => by omega)
theorem next_mon571 : nextF mon 571 = some 7 := by
  rw [next_eq]; unfold rnextF; rw [firstT_in (by omega) (by omega)]
  refine findUp_is (by omega) (by omega) ((okRN_mon 571 7).2 ⟨(mon_on 7).2 (by omega), by omega⟩) (fun x h1 h2 h3 => ?_)
  rw [okRN_mon, mon_on] at h3; omega
theorem last_mon720 : lastF mon 720 = some 0 := by
  rw [last_eq]; unfold rlastF; rw [firstT_in (by omega) (by omega)]
  exact findDn_is (by omega) (by omega) ((okRL_mon 720 0).2 ⟨(mon_on 0).2 (by omega), by omega⟩) (fun x h1 h2 => by omega)
theorem last_mon719 : lastF mon 719 = none := by
  rw [last_eq]; unfold rlastF; rw [firstT_in (by omega) (by omega)]
  cases h : findDn (okRL mon 719) (719 / 1440) 40 with
  | none => rfl
  | some d =>
    obtain ⟨k1, k2, k3, k4⟩ := findDn_some _ _ _ _ h
    rw [okRL_mon, mon_on] at k3; omega
theorem list_mon : rlistF mon 0 20000 = ([0, 7], 0) := by
  have h0 : collect (okRI mon 0 20000) 0 14 = [0, 7] := by
    have hf : ∀ x : Int, x % 7 ≠ 0 → ¬ okRI mon 0 20000 x := fun x hx h => by rw [okRI_mon, mon_on] at h; omega
    have ht : ∀ x : Int, 0 ≤ x → x ≤ 10 → x % 7 = 0 → okRI mon 0 20000 x := fun x h1 h2 h3 => by rw [okRI_mon, mon_on]; omega
    rw [show (14 : Nat) = 1 + (6 + (1 + 6)) from rfl, collect_split, collect_split, collect_split, collect_yes (ht 0 (by omega) (by omega) (by omega)), collect_none 6 _ (fun x h1 h2 => hf x (by omega)),
      collect_yes (ht _ (by omega) (by omega) (by omega)), collect_none 6 _ (fun x h1 h2 => hf x (by omega))]
    rfl
  unfold rlistF
  rw [B_true mon_right, if_pos rfl, firstT_in (by omega) (by omega), firstT_in (by omega) (by omega)]
  rw [show ((20000 : Int) / 1440 + 1 - 0 / 1440).toNat = 14 from rfl, show (0 : Int) / 1440 = 0 from rfl, h0]
  rfl
theorem listm_calls (w : World) : Calls Try.prog 18 #[legV mon, .int .i64 0, .int .i64 20000] w fun e w' => ∃ v N, e = .returned v ∧ (∃ b cap slack, v = .tuple #[.slice (some ⟨b, 0, none⟩) 2 cap, .int .i64 0] ∧
    N = [⟨b, Ce ([.int .i64 600, .int .i64 720, .int .i64 10680, .int .i64 10800] ++ slack) 28, true⟩]) ∧ Rep w w' N ∧ ∀ x ∈ N, x.own = true :=
  (list_res mon 0 20000 w mon_u8).mono fun e w' ⟨v, N, h1, ⟨sv, h2, h3⟩, h4, h5⟩ => by
    rw [list_mon] at h2 h3
    rcases h3 with ⟨_, h, _⟩ | ⟨b, m, cap, slack, rfl, rfl, hx, _, _⟩
    · cases h
    · have hm : m = 2 := by have : 4 = m * 2 := hx; omega
      subst hm
      exact ⟨v, _, h1, ⟨b, cap, slack, h2, rfl⟩, h4, h5⟩
theorem monday_calls (w : World) : Calls Try.prog 19 #[] w fun e w' => e = .returned (legV mon) ∧ Below w.heap.size w w' := by
  refine f_enter0 Try.func19 rfl Try.ntmps19 rfl (Rep.start w) ?_
  repeat' (first | ((with_reducible apply o_alloc); exact rfl; intro _) | ((with_reducible apply gdo_store); first | refine wo_store1 (h := ?_) | refine wo_storeA (h := ?_)) | ((with_reducible apply gdo_build); first | refine wo_build (h := ?_) | refine wo_buildA (h := ?_)) | ((with_reducible first | apply c_seq | apply c_block | apply c_region | apply c_nil | apply c_ret | apply c_exit | apply c_unroll | apply c_skip)) | ((with_reducible first | apply e_then | apply e_then_ret | apply e_then_exit | apply e_in | apply e_in_ret | apply e_in_same)))
  apply r_body; apply res1 Try.results19; (first | exact rv_tmp rfl | (apply rv_cell; infer_instance; rfl; (first | exact Kn.old (by assumption) rfl | (apply Kn.oldA; assumption; ((focus (repeat (first | exact AO.nil | apply AO.cons | (apply AO.app; assumption)))) <;> done)) | (apply Kn.apart; assumption; ((focus (repeat (first | exact Apart.nil | apply Apart.own | (apply Apart.given; assumption) | (apply Apart.app; assumption)))) <;> done)) | (refine Kn.at ?_; ((focus (repeat (first | assumption | exact At.hd | refine At.tl ?_ | (refine At.left ?_; assumption) | refine At.right ?_))) <;> done))); (repeat (first | exact Nth.z | apply Nth.s))) | (apply rv_cellA; infer_instance; infer_instance; rfl; (first | exact Kn.old (by assumption) rfl | (apply Kn.oldA; assumption; ((focus (repeat (first | exact AO.nil | apply AO.cons | (apply AO.app; assumption)))) <;> done)) | (apply Kn.apart; assumption; ((focus (repeat (first | exact Apart.nil | apply Apart.own | (apply Apart.given; assumption) | (apply Apart.app; assumption)))) <;> done)) | (refine Kn.at ?_; ((focus (repeat (first | assumption | exact At.hd | refine At.tl ?_ | (refine At.left ?_; assumption) | refine At.right ?_))) <;> done))); rfl)); intro w' hw
  exact ⟨rfl, hw.below (by simp)⟩
abbrev T2 (a b : Int) (p : Bool) : Value := .tuple #[.agg #[.int .i64 a, .int .i64 b], .bool p]
set_option maxHeartbeats 4000000 in
theorem awake_calls (w : World) : Calls Try.prog 12 #[] w fun e w' => e = .returned (.bool true) ∧ Below w.heap.size w w' := by
  have c1 : ∀ w, Calls Try.prog 16 #[legV mon, .int .i64 0] w fun e w' => e = .returned (.tuple #[.agg #[.int .i64 600, .int .i64 720], .bool true]) ∧ Below w.heap.size w w' := fun w => by
    have := on_calls mon 0 w mon_u8; rw [on_mon0] at this; exact this
  have c2 : ∀ w, Calls Try.prog 16 #[legV mon, .int .i64 1] w fun e w' => e = .returned (.tuple #[.agg #[.int .i64 0, .int .i64 0], .bool false]) ∧ Below w.heap.size w w' := fun w => by
    have := on_calls mon 1 w mon_u8; rw [on_mon1] at this; exact this
  have c3 : ∀ w, Calls Try.prog 16 #[legV mon10, .int .i64 0] w fun e w' => e = .returned (.tuple #[.agg #[.int .i64 0, .int .i64 0], .bool false]) ∧ Below w.heap.size w w' := fun w => by
    have := on_calls mon10 0 w mon10_u8; rw [on_mon10] at this; exact this
  have c4 : ∀ w, Calls Try.prog 14 #[legV mon, .int .i64 0] w fun e w' => e = .returned (.tuple #[.agg #[.int .i64 600, .int .i64 720], .bool true]) ∧ Below w.heap.size w w' := fun w => by
    have := next_calls mon 0 w mon_u8; rw [next_mon0] at this; exact this
  have c5 : ∀ w, Calls Try.prog 14 #[legV mon, .int .i64 570] w fun e w' => e = .returned (.tuple #[.agg #[.int .i64 600, .int .i64 720], .bool true]) ∧ Below w.heap.size w w' := fun w => by
    have := next_calls mon 570 w mon_u8; rw [next_mon570] at this; exact this
  have c6 : ∀ w, Calls Try.prog 14 #[legV mon, .int .i64 571] w fun e w' => e = .returned (.tuple #[.agg #[.int .i64 10680, .int .i64 10800], .bool true]) ∧ Below w.heap.size w w' := fun w => by
    have := next_calls mon 571 w mon_u8; rw [next_mon571] at this; exact this
  have c7 : ∀ w, Calls Try.prog 17 #[legV mon, .int .i64 720] w fun e w' => e = .returned (.tuple #[.agg #[.int .i64 600, .int .i64 720], .bool true]) ∧ Below w.heap.size w w' := fun w => by
    have := last_calls mon 720 w mon_u8; rw [last_mon720] at this; exact this
  have c8 : ∀ w, Calls Try.prog 17 #[legV mon, .int .i64 719] w fun e w' => e = .returned (.tuple #[.agg #[.int .i64 0, .int .i64 0], .bool false]) ∧ Below w.heap.size w w' := fun w => by
    have := last_calls mon 719 w mon_u8; rw [last_mon719] at this; exact this
  have hg0 : ∀ (sl : List Value) j v, ([.int .i64 600, .int .i64 720] : List Value)[j]? = some v → (([.int .i64 600, .int .i64 720, .int .i64 10680, .int .i64 10800] ++ sl : List Value).toArray)[0 + (0 : Int).toNat * 2 + j]? = some v := fun sl j v hj => by
    match j, hj with
    | 0, hj => simpa using hj
    | 1, hj => simpa using hj
    | j + 2, hj => simp at hj
  have hg1 : ∀ (sl : List Value) j v, ([.int .i64 10680, .int .i64 10800] : List Value)[j]? = some v → (([.int .i64 600, .int .i64 720, .int .i64 10680, .int .i64 10800] ++ sl : List Value).toArray)[0 + (1 : Int).toNat * 2 + j]? = some v := fun sl j v hj => by
    match j, hj with
    | 0, hj => simpa using hj
    | 1, hj => simpa using hj
    | j + 2, hj => simp at hj
  refine f_enter0 Try.func12 rfl Try.ntmps12 rfl (Rep.start w) ?_
  repeat' (first | ((first | ((with_reducible apply o_call_pure (f := 19)); exact rfl) | ((with_reducible apply q_call_pure (f := 19)); exact rfl; kernel_rfl; exact rfl; (focus (repeat (first | (apply SubJ.keep; (decide +kernel)) | apply SubJ.drop | exact SubJ.nil))))); (repeat (first | exact Evs.nil | apply Evs.cons rfl)); exact (fun w _ => monday_calls w)) | ((first | ((with_reducible apply o_call_pure (f := 16)); exact rfl) | ((with_reducible apply q_call_pure (f := 16)); exact rfl; kernel_rfl; exact rfl; (focus (repeat (first | (apply SubJ.keep; (decide +kernel)) | apply SubJ.drop | exact SubJ.nil))))); (repeat (first | exact Evs.nil | apply Evs.cons rfl)); exact (fun w _ => c1 w)) | ((first | ((with_reducible apply o_call_pure (f := 16)); exact rfl) | ((with_reducible apply q_call_pure (f := 16)); exact rfl; kernel_rfl; exact rfl; (focus (repeat (first | (apply SubJ.keep; (decide +kernel)) | apply SubJ.drop | exact SubJ.nil))))); (repeat (first | exact Evs.nil | apply Evs.cons rfl)); exact (fun w _ => c2 w)) | ((first | ((with_reducible apply o_call_pure (f := 16)); exact rfl) | ((with_reducible apply q_call_pure (f := 16)); exact rfl; kernel_rfl; exact rfl; (focus (repeat (first | (apply SubJ.keep; (decide +kernel)) | apply SubJ.drop | exact SubJ.nil))))); (repeat (first | exact Evs.nil | apply Evs.cons rfl)); exact (fun w _ => c3 w)) | ((first | ((with_reducible apply o_call_pure (f := 14)); exact rfl) | ((with_reducible apply q_call_pure (f := 14)); exact rfl; kernel_rfl; exact rfl; (focus (repeat (first | (apply SubJ.keep; (decide +kernel)) | apply SubJ.drop | exact SubJ.nil))))); (repeat (first | exact Evs.nil | apply Evs.cons rfl)); exact (fun w _ => c4 w)) | ((first | ((with_reducible apply o_call_pure (f := 14)); exact rfl) | ((with_reducible apply q_call_pure (f := 14)); exact rfl; kernel_rfl; exact rfl; (focus (repeat (first | (apply SubJ.keep; (decide +kernel)) | apply SubJ.drop | exact SubJ.nil))))); (repeat (first | exact Evs.nil | apply Evs.cons rfl)); exact (fun w _ => c5 w)) | ((first | ((with_reducible apply o_call_pure (f := 14)); exact rfl) | ((with_reducible apply q_call_pure (f := 14)); exact rfl; kernel_rfl; exact rfl; (focus (repeat (first | (apply SubJ.keep; (decide +kernel)) | apply SubJ.drop | exact SubJ.nil))))); (repeat (first | exact Evs.nil | apply Evs.cons rfl)); exact (fun w _ => c6 w)) | ((first | ((with_reducible apply o_call_pure (f := 17)); exact rfl) | ((with_reducible apply q_call_pure (f := 17)); exact rfl; kernel_rfl; exact rfl; (focus (repeat (first | (apply SubJ.keep; (decide +kernel)) | apply SubJ.drop | exact SubJ.nil))))); (repeat (first | exact Evs.nil | apply Evs.cons rfl)); exact (fun w _ => c7 w)) | ((first | ((with_reducible apply o_call_pure (f := 17)); exact rfl) | ((with_reducible apply q_call_pure (f := 17)); exact rfl; kernel_rfl; exact rfl; (focus (repeat (first | (apply SubJ.keep; (decide +kernel)) | apply SubJ.drop | exact SubJ.nil))))); (repeat (first | exact Evs.nil | apply Evs.cons rfl)); exact (fun w _ => c8 w)) | ((first | ((with_reducible apply o_call_new (f := 18)); exact rfl) | ((with_reducible apply q_call_new (f := 18)); exact rfl; exact rfl; (focus (repeat (first | (apply SubJ.keep; (decide +kernel)) | apply SubJ.drop | exact SubJ.nil))))); (repeat (first | exact Evs.nil | apply Evs.cons rfl)); exact (fun w _ => listm_calls w); rintro v N ⟨c1, cap1, sl1, rfl, rfl⟩ <;> (try simp only [List.cons_append, List.nil_append])) | (apply q_iaddr (t := 33) (e := 28) (k := 2); exact rfl; exact rfl; exact rfl; exact ⟨by omega, by omega⟩) | (apply q_loadN (t := 28) (k := 2) (l := [.int .i64 600, .int .i64 720]); exact rfl; exact rfl; (focus (repeat (first | (apply SubJ.keep; (decide +kernel)) | apply SubJ.drop | exact SubJ.nil))); (first | exact Kn.old (by assumption) rfl | (apply Kn.oldA; assumption; ((focus (repeat (first | exact AO.nil | apply AO.cons | (apply AO.app; assumption)))) <;> done)) | (apply Kn.apart; assumption; ((focus (repeat (first | exact Apart.nil | apply Apart.own | (apply Apart.given; assumption) | (apply Apart.app; assumption)))) <;> done)) | (refine Kn.at ?_; ((focus (repeat (first | assumption | exact At.hd | refine At.tl ?_ | (refine At.left ?_; assumption) | refine At.right ?_))) <;> done))); exact rfl; exact hg0 _; exact rfl) | (apply q_loadN (t := 28) (k := 2) (l := [.int .i64 10680, .int .i64 10800]); exact rfl; exact rfl; (focus (repeat (first | (apply SubJ.keep; (decide +kernel)) | apply SubJ.drop | exact SubJ.nil))); (first | exact Kn.old (by assumption) rfl | (apply Kn.oldA; assumption; ((focus (repeat (first | exact AO.nil | apply AO.cons | (apply AO.app; assumption)))) <;> done)) | (apply Kn.apart; assumption; ((focus (repeat (first | exact Apart.nil | apply Apart.own | (apply Apart.given; assumption) | (apply Apart.app; assumption)))) <;> done)) | (refine Kn.at ?_; ((focus (repeat (first | assumption | exact At.hd | refine At.tl ?_ | (refine At.left ?_; assumption) | refine At.right ?_))) <;> done))); exact rfl; exact hg1 _; exact rfl) | ((with_reducible first | apply o_move | apply o_assign | apply o_faddr0 | apply o_not_d); exact rfl; exact rfl) | ((with_reducible apply gdo_load); first | refine wo_load (h := ?_) | refine wo_loadAll (h := ?_) | refine wo_loadC (h := ?_) | refine wo_ldV (h := ?_) | refine wo_ldF (h := ?_)) | ((with_reducible first | apply o_neq | apply o_extract); exact rfl; exact rfl; exact rfl) | ((with_reducible apply o_not); exact rfl; exact rfl) | ((with_reducible apply o_alloc); exact rfl; intro _) | ((with_reducible apply gdo_store); first | refine wo_store1 (h := ?_) | refine wo_storeA (h := ?_)) | ((with_reducible apply gdo_build); first | refine wo_build (h := ?_) | refine wo_buildA (h := ?_)) | ((with_reducible first | apply c_seq | apply c_block | apply c_region | apply c_nil | apply c_ret | apply c_exit | apply c_unroll | apply c_skip)) | ((with_reducible apply c_cond_f); exact rfl; (first | rfl | assumption | exact decide_eq_false (by first | assumption | omega) | exact B_false (by first | assumption | omega | decide))) | ((with_reducible first | apply e_then | apply e_then_ret | apply e_then_exit | apply e_in | apply e_in_ret | apply e_in_same)) | ((with_reducible apply c_regionD0 (id := 11) []); kernel_rfl; kernel_rfl) | ((with_reducible apply q_nil); try simp only [ents, List.cons_append, List.nil_append]) | ((with_reducible first | apply q_move | apply q_assign | apply q_faddr0 | apply q_not_d); exact rfl; exact rfl) | ((with_reducible apply gdq_load); first | refine wq_load (h := ?_) | refine wq_loadAll (h := ?_) | refine wq_loadC (h := ?_) | refine wq_ldV (h := ?_) | refine wq_ldF (h := ?_)) | ((with_reducible first | apply q_neq | apply q_extract); exact rfl; exact rfl; exact rfl) | ((with_reducible apply gdq_binOp_neq); refine wq_neq_s (h := ?_)) | ((with_reducible apply q_not); exact rfl; exact rfl) | ((with_reducible apply q_pick_f); exact rfl; (first | rfl | assumption | exact decide_eq_false (by first | assumption | omega) | exact B_false (by first | assumption | omega | decide)); exact rfl; exact rfl) | ((with_reducible apply gdq_build); first | refine wq_build (h := ?_) | refine wq_buildA (h := ?_)) | ((with_reducible apply gdq_call_len); first | refine wq_len (h := ?_) | refine wq_len_str (h := ?_)) | ((with_reducible first | apply h_run | apply h_skip_none); exact rfl; (first | rfl | assumption | exact decide_eq_true (by first | assumption | omega) | exact B_true (by first | assumption | omega | decide) | rfl | assumption | exact decide_eq_false (by first | assumption | omega) | exact B_false (by first | assumption | omega | decide))) | ((with_reducible first | apply q_appd | apply q_appn)))
  apply r_body; apply res1 Try.results12; (first | exact rv_tmp rfl | (apply rv_cell; infer_instance; rfl; (first | exact Kn.old (by assumption) rfl | (apply Kn.oldA; assumption; ((focus (repeat (first | exact AO.nil | apply AO.cons | (apply AO.app; assumption)))) <;> done)) | (apply Kn.apart; assumption; ((focus (repeat (first | exact Apart.nil | apply Apart.own | (apply Apart.given; assumption) | (apply Apart.app; assumption)))) <;> done)) | (refine Kn.at ?_; ((focus (repeat (first | assumption | exact At.hd | refine At.tl ?_ | (refine At.left ?_; assumption) | refine At.right ?_))) <;> done))); (repeat (first | exact Nth.z | apply Nth.s))) | (apply rv_cellA; infer_instance; infer_instance; rfl; (first | exact Kn.old (by assumption) rfl | (apply Kn.oldA; assumption; ((focus (repeat (first | exact AO.nil | apply AO.cons | (apply AO.app; assumption)))) <;> done)) | (apply Kn.apart; assumption; ((focus (repeat (first | exact Apart.nil | apply Apart.own | (apply Apart.given; assumption) | (apply Apart.app; assumption)))) <;> done)) | (refine Kn.at ?_; ((focus (repeat (first | assumption | exact At.hd | refine At.tl ?_ | (refine At.left ?_; assumption) | refine At.right ?_))) <;> done))); rfl)); intro w' hw
  exact ⟨rfl, hw.below (by simp)⟩
theorem tells3_calls (l : Leg) (a b : Int) (w : World) (hu : U8 l) : Calls Try.prog 3 #[legV l, .int .i64 a, .int .i64 b] w fun e w' => e = .returned (.bool true) ∧ Below w.heap.size w w' := by
  refine f_enter3 Try.func3 rfl Try.ntmps3 rfl (Rep.start w) ?_
  repeat' (first | ((first | ((with_reducible apply o_call_pure (f := 11)); exact rfl) | ((with_reducible apply q_call_pure (f := 11)); exact rfl; kernel_rfl; exact rfl; (focus (repeat (first | (apply SubJ.keep; (decide +kernel)) | apply SubJ.drop | exact SubJ.nil))))); (repeat (first | exact Evs.nil | apply Evs.cons rfl)); exact (fun w _ => tells_calls _ _ _ w hu)) | ((first | ((with_reducible apply o_call_pure (f := 12)); exact rfl) | ((with_reducible apply q_call_pure (f := 12)); exact rfl; kernel_rfl; exact rfl; (focus (repeat (first | (apply SubJ.keep; (decide +kernel)) | apply SubJ.drop | exact SubJ.nil))))); (repeat (first | exact Evs.nil | apply Evs.cons rfl)); exact (fun w _ => awake_calls w)) | ((with_reducible first | apply o_move | apply o_assign); exact rfl; exact rfl) | ((with_reducible apply gdo_load); first | refine wo_load (h := ?_) | refine wo_loadAll (h := ?_) | refine wo_loadC (h := ?_) | refine wo_ldV (h := ?_) | refine wo_ldF (h := ?_)) | ((with_reducible apply o_pick_t); exact rfl; (first | rfl | assumption | exact decide_eq_true (by first | assumption | omega) | exact B_true (by first | assumption | omega | decide)); exact rfl; exact rfl) | ((with_reducible apply o_box); exact rfl; exact rfl; exact rfl; intro _) | ((with_reducible first | apply g_run | apply g_skip_none); exact rfl; (first | rfl | assumption | exact decide_eq_true (by first | assumption | omega) | exact B_true (by first | assumption | omega | decide) | rfl | assumption | exact decide_eq_false (by first | assumption | omega) | exact B_false (by first | assumption | omega | decide))) | ((with_reducible first | apply c_seq | apply c_block | apply c_region | apply c_nil | apply c_ret | apply c_exit | apply c_unroll | apply c_skip)) | ((with_reducible first | apply e_then | apply e_then_ret | apply e_then_exit | apply e_in | apply e_in_ret | apply e_in_same)))
  apply r_body; apply res1 Try.results3; (first | exact rv_tmp rfl | (apply rv_cell; infer_instance; rfl; (first | exact Kn.old (by assumption) rfl | (apply Kn.oldA; assumption; ((focus (repeat (first | exact AO.nil | apply AO.cons | (apply AO.app; assumption)))) <;> done)) | (apply Kn.apart; assumption; ((focus (repeat (first | exact Apart.nil | apply Apart.own | (apply Apart.given; assumption) | (apply Apart.app; assumption)))) <;> done)) | (refine Kn.at ?_; ((focus (repeat (first | assumption | exact At.hd | refine At.tl ?_ | (refine At.left ?_; assumption) | refine At.right ?_))) <;> done))); (repeat (first | exact Nth.z | apply Nth.s))) | (apply rv_cellA; infer_instance; infer_instance; rfl; (first | exact Kn.old (by assumption) rfl | (apply Kn.oldA; assumption; ((focus (repeat (first | exact AO.nil | apply AO.cons | (apply AO.app; assumption)))) <;> done)) | (apply Kn.apart; assumption; ((focus (repeat (first | exact Apart.nil | apply Apart.own | (apply Apart.given; assumption) | (apply Apart.app; assumption)))) <;> done)) | (refine Kn.at ?_; ((focus (repeat (first | assumption | exact At.hd | refine At.tl ?_ | (refine At.left ?_; assumption) | refine At.right ?_))) <;> done))); rfl)); intro w' hw
  exact ⟨rfl, hw.below (by simp)⟩
end Go.Proofs.Ytcocnhfbdcapbaa
