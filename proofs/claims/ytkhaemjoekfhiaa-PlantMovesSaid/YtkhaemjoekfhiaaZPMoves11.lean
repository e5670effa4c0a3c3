/-
  PlantMoves: whatever the plant in small numbers and the minute, the law returns true, and its arguments read as they did. Conditions: none.
-/
import Derived.Test.YtkhaemjoekfhiaaZPMoves3
import Derived.Test.YtkhaemjoekfhiaaZPMoves10
import Derived.Test.YtkhaemjoekfhiaaZPMoves9
import Derived.Test.YtkhaemjoekfhiaaZPMoves2
set_option linter.unusedSimpArgs false
set_option linter.unusedVariables false
set_option linter.unusedSectionVars false
namespace Go.Sx.Plt
open Go.Proofs.Ytkhaemjoekfhiaa (mslF_keys psF tkF psF_snoc tkF_snoc)
/-- The run of a pass of a valid plant. -/
theorem Valid.run {p : Plant} (hv : Valid p) {i : Nat} {y : Pass} (hy : p.passes[i]? = some y) {r : Run} (hr : (playF p)[i]? = some r) : ∃ (k : Nat) (m : Mach), p.ms[k]? = some m ∧ m.id = y.mach ∧ rightM m ∧ r = (runF (hallAt p i) m (stopsF p.items) y).1 ∧ hallAt p (i + 1) = (runF (hallAt p i) m (stopsF p.items) y).2 ∧
    asF y.mach (mslF p.ms) = some (m.caps.length : Int) ∧ (Miss p (hallAt p i) m y r ∨ ∃ ready, Ran p (hallAt p i) m y r ready) := by
  obtain ⟨k, m, h1, h2, h3, h4, h5⟩ := hv.mach hy
  have hg := playF_get hy
  rw [hr, h3] at hg
  have e : r = (runF (hallAt p i) m (stopsF p.items) y).1 := Option.some.inj hg
  refine ⟨k, m, h1, h2, h4, e, by rw [hallAt_succ hy, h3], h5, ?_⟩
  rw [e]
  exact run_cases hv (Inv.all hv i) hy h5 h4
theorem pass_lt {p : Plant} {i : Nat} {y : Pass} (h : p.passes[i]? = some y) : i < p.passes.length := (List.getElem?_eq_some_iff.1 h).1
theorem Valid.get {p : Plant} {i : Nat} {y : Pass} (h : p.passes[i]? = some y) : ∃ r, (playF p)[i]? = some r := ⟨_, List.getElem?_eq_getElem (by rw [playF_len]; exact pass_lt h)⟩
theorem hall_stay {p : Plant} {i : Nat} (h : p.passes[i]? = none) : hallAt p (i + 1) = hallAt p i := by
  unfold hallAt
  rw [List.take_add_one, h]; simp
/-! ## rows -/
theorem batch_row (b : Int) : ∀ l : List Item, (asF ((0 : Int), b) (batchRows [] l)).getD [] = ofBatch l (0, b) := by
  refine fun l => snoc_ind (p := fun l => (asF ((0 : Int), b) (batchRows [] l)).getD [] = ofBatch l (0, b)) (by simp [batchRows, asF, ofBatch]) (fun l x ih => ?_) l
  rw [batch_snoc, asF_put]
  unfold ofBatch at ih ⊢
  rw [if_pos rfl] at ih ⊢
  rw [List.filter_append, List.map_append]
  by_cases h : x.batch = b
  · rw [if_pos (by rw [h]), Option.getD_some, h, ih]; simp [h]
  · rw [if_neg (fun e => h (Prod.mk.inj e).2), ih]; simp [h]
theorem batch_row0 {s : Int × Int} (h : s.1 ≠ 0) (l : List Item) : asF s (batchRows [] l) = none := by
  refine snoc_ind (p := fun l => asF s (batchRows [] l) = none) (by simp [batchRows, asF]) (fun l x ih => ?_) l
  rw [batch_snoc, asF_put, if_neg (fun e => h (by rw [← e]))]
  exact ih
theorem ofRun_missed (y : Pass) {s : Int × Int} (h : 0 ≤ s.2) : ofRun s (missed y) = [] := by
  unfold ofRun
  rw [if_neg]
  rintro ⟨_, h2⟩
  simp [missed, Srt.M.new] at h2
  omega
theorem Valid.rows {p : Plant} (hv : Valid p) {s : Int × Int} (hs : 0 ≤ s.2) : ∀ i, (hallAt p i).row s = ofBatch p.items s ++ ((playF p).take i).flatMap (ofRun s)
  | 0 => by
    rw [hallAt_zero, List.take_zero, List.flatMap_nil, List.append_nil]
    unfold Hall.row hall0
    dsimp only
    by_cases h0 : s.1 = 0
    · obtain ⟨a, b⟩ := s
      dsimp only at h0
      subst h0
      exact batch_row b p.items
    · rw [batch_row0 h0]
      unfold ofBatch
      rw [if_neg h0]; rfl
  | i + 1 => by
    have ih := Valid.rows hv hs i
    cases hy : p.passes[i]? with
    | none =>
      have hl : p.passes.length ≤ i := by
        rcases Nat.lt_or_ge i p.passes.length with h | h
        · rw [List.getElem?_eq_getElem h] at hy; cases hy
        · exact h
      rw [hall_stay hy, ih, List.take_of_length_le (by rw [playF_len]; omega), List.take_of_length_le (by rw [playF_len]; omega)]
    | some y =>
      obtain ⟨r, hr⟩ := Valid.get hy
      obtain ⟨k, m, _, _, _, hre, hh, _, hc⟩ := hv.run hy hr
      rw [flatMap_snoc' _ hr, ← List.append_assoc, ← ih]
      rcases hc with hc | ⟨ready, hc⟩
      · rw [hh, hc.hall, hc.eq, ofRun_missed y hs, List.append_nil]
      · rw [hh, hc.hall]
        unfold Hall.row
        dsimp only
        obtain ⟨a, b⟩ := s
        dsimp only at hs
        rw [putRows_as]
        have hidn : y.id ≠ 0 := by
          have := (hv.pok i y hy).1.2.1
          unfold idOk at this
          omega
        unfold ofRun
        rw [hc.pass]
        dsimp only
        by_cases hid : a = y.id
        · subst hid
          have h0 : asF (y.id, b) (hallAt p i).rows = none := (Inv.all hv i).row_early hidn (hv.new hy)
          rw [h0]
          by_cases hb : b < (r.res.stackers.length : Int)
          · rw [if_pos ⟨rfl, by omega, by omega⟩, if_pos ⟨rfl, hb⟩]
            simp [List.getD_eq_getElem?_getD]
          · rw [if_neg (by rintro ⟨_, _, h⟩; omega), if_neg (fun h => hb h.2)]; rfl
        · rw [if_neg (fun h => hid h.1), if_neg (fun h => hid h.1.symm), List.append_nil]
theorem src_nonneg {ps : List (Int × Int)} {s : Int × Int} (h : srcOk ps s) : 0 ≤ s.2 := by
  unfold srcOk at h
  split at h
  · omega
  · split at h
    · exact h.elim
    · exact h.1
theorem Valid.src_nn {p : Plant} (hv : Valid p) {i : Nat} {y : Pass} (hy : p.passes[i]? = some y) : ∀ s ∈ y.src, 0 ≤ s.2 := fun s hs => src_nonneg ((srcs_spec (hv.pok i y hy).2.1).2 s hs).2
theorem Valid.taken' {p : Plant} (hv : Valid p) {i : Nat} {y : Pass} (hy : p.passes[i]? = some y) : y.src.flatMap (hallAt p i).row = takenF p.items ((playF p).take i) y.src := by
  unfold takenF
  have : ∀ l : List (Int × Int), (∀ s ∈ l, 0 ≤ s.2) → l.flatMap (hallAt p i).row = l.flatMap fun s => ofBatch p.items s ++ ((playF p).take i).flatMap (ofRun s) := by
    intro l
    induction l with
    | nil => intro _; rfl
    | cons a l ih =>
      intro h
      rw [List.flatMap_cons, List.flatMap_cons, ih fun s hs => h s (List.mem_cons_of_mem _ hs), hv.rows (h a List.mem_cons_self) i]
  exact this _ (hv.src_nn hy)
theorem Valid.taken_len {p : Plant} (hv : Valid p) {i : Nat} {y : Pass} (hy : p.passes[i]? = some y) : (takenF p.items ((playF p).take i) y.src).length ≤ 2000 := by
  rw [← hv.taken' hy]
  have hs := hv.src hy
  exact (Inv.all hv i).len hv hs.1 fun s hs' => (hs.2 s hs').1
theorem Ran.items {p : Plant} {i : Nat} {m : Mach} {y : Pass} {r : Run} {ready : Int} (hc : Ran p (hallAt p i) m y r ready) (hv : Valid p) (hy : p.passes[i]? = some y) : r.items = takenF p.items ((playF p).take i) y.src := by
  have := (takeSrc_spec hc.take).1
  rw [List.nil_append] at this
  rw [this, hv.taken' hy]
/-! ## where items are put -/
structure Placed (r : Run) (x st : Int) : Prop where
  all : allN r x r.res.stackers.length = 1
  rej : st < 0 → holdsF r x 4 r.pass 0
  put : 0 ≤ st → holdsF r x 2 r.pass st ∨ holdsF r x 3 r.pass 0
  place : ∀ kd ps nu, placeF r x = (kd, ps, nu) → (kd = 2 ∨ kd = 3 ∨ kd = 4) ∧ holdsF r x kd ps nu
end Go.Sx.Plt
namespace Go.Proofs.Ytkhaemjoekfhiaa
open Go Go.Sx Go.RowKit
attribute [local irreducible] WL WC WQ WR WB WF QB St Exit.then Exit.inBlock Exit.noGoto bodyPost roundPost beginK YR RG BM Calls B AgainD MeetD
/-! ## awake -/
theorem len20 : (Plt.playF (Plt.exPl 20)).length = 2 := by rw [Plt.playF_len]; rfl
theorem len14 : (Plt.playF (Plt.exPl 14)).length = 2 := by rw [Plt.playF_len]; rfl
set_option maxHeartbeats 16000000 in
set_option maxRecDepth 100000 in
theorem awake_calls (w : World) : Calls Try.prog 16 #[] w fun e w' => e = .returned (.bool true) ∧ Below w.heap.size w w' := by
  have hl20 := len20
  have hl14 := len14
  obtain ⟨r0, hr0, e01, e02, e03, e04, e05⟩ := Plt.ex20_r0
  obtain ⟨r1, hr1, e11, e12, e13, e14⟩ := Plt.ex20_r1
  obtain ⟨s0, hs0, f01⟩ := Plt.ex14_r0
  obtain ⟨s1, hs1, f11, f12, f13⟩ := Plt.ex14_r1
  refine f_enter0 Try.func16 rfl Try.ntmps16 rfl (Rep.start w) ?_
  repeat' (first | ((first | ((with_reducible apply o_call_new (f := 35)); exact rfl) | ((with_reducible apply q_call_new (f := 35)); exact rfl; exact rfl; exact sJ_)); exact eV_; exact (fun w _ => example_calls w); rintro v NE ⟨b1, b2, b3, b4, b5, b6, b7, b8, b9, rfl, rfl⟩ <;> (try simp only [List.cons_append, List.nil_append])) | ((first | ((with_reducible apply o_call_new (f := 11)); exact rfl) | ((with_reducible apply q_call_new (f := 11)); exact rfl; exact rfl; exact sJ_)); exact eV_; exact (fun w hw => play_calls31 (Plt.calm_of Plt.ex20_valid) w (ex_plV _ _ _ _ (by exact rL_) hw)); rintro v NR ⟨ar, cr, rds, rfl, ⟨hsh, hrl⟩, oR⟩ <;> (try simp only [List.cons_append, List.nil_append])) | ((with_reducible first | apply o_move | apply o_assign | apply o_faddr0 | apply o_not_d); exact rfl; exact rfl) | ((with_reducible apply gdo_load); first | refine wo_load (h := ?_) | refine wo_loadAll (h := ?_) | refine wo_loadC (h := ?_) | refine wo_ldV (h := ?_) | refine wo_ldF (h := ?_)) | ((with_reducible first | apply o_eql | apply o_neq | apply o_extract); exact rfl; exact rfl; exact rfl) | ((with_reducible apply o_pick_f); exact rfl; exact fF_; exact rfl; exact rfl) | ((with_reducible apply o_alloc); exact rfl; intro _) | ((with_reducible apply gdo_store); first | refine wo_store1 (h := ?_) | refine wo_storeA (h := ?_)) | ((with_reducible apply o_len); infer_instance; exact rfl; exact rfl) | ((with_reducible first | apply g_run); exact rfl; exact gG_) | ((with_reducible first | apply c_seq | apply c_block | apply c_region | apply c_nil | apply c_ret | apply c_exit | apply c_skip)) | ((with_reducible first | apply e_then | apply e_then_ret | apply e_then_exit | apply e_in | apply e_in_ret | apply e_in_same)) | ((with_reducible first | apply o_appd | apply o_appn)))
  refine st_know (fun w' hw' => RunsV.at (hsh _ _ _ _ (by exact rL_) hw') hr0) ?_
  rintro ⟨br, offr, x1, k1, x2, k2, x3, n3, k3, x4, n4, k4, x5, k5, x6, k6, x7, n7, k7, rfl, hd0, hn3, g0⟩
  refine st_know (fun w' hw' => RunsV.at (hsh _ _ _ _ (by exact rL_) hw') hr1) ?_
  rintro ⟨br', offr', y1, l1, y2, l2, y3, m3, l3, y4, m4, l4, y5, l5, y6, l6, y7, m7, l7, ebr, hd1, hm3, g1⟩
  cases ebr
  have hsl : (Plt.slc3 r0.pass r0.slices)[1]? = some (3, 10, 12) := by rw [e03, e04]; rfl
  refine st_know (fun w' hw' => SV.ptr ((hsh _ _ _ _ (by exact rL_) hw').2.2 0 _ _ hd0 hr0).slices hsl) ?_
  rintro ⟨bs, offs, rfl⟩
  have hsn0 : r0.slices.length = 2 := by rw [e04]; rfl
  repeat' (first | ((with_reducible apply o_pick_f); exact rfl; exact decide_eq_false (by omega); exact rfl; exact rfl) | ((with_reducible apply g_run); exact rfl; exact decide_eq_false (by omega)) | ((with_reducible apply o_idx (m := 0)); infer_instance; infer_instance; exact rfl; exact rfl; exact rfl; exact rfl; omega) | ((with_reducible apply o_idx (m := 1)); infer_instance; infer_instance; exact rfl; exact rfl; exact rfl; exact rfl; omega) | ((with_reducible apply o_ldP); infer_instance; exact rfl; (intro w' hw'; first | exact SV.cell (hsh _ _ _ _ (by exact rL_) hw').1 hd0 (g0 _ _ rfl) | exact SV.cell (hsh _ _ _ _ (by exact rL_) hw').1 hd1 (g1 _ _ rfl)); exact rfl) | ((with_reducible apply o_ldPV (l := [.int .i64 3, .int .i64 10, .int .i64 12])); infer_instance; infer_instance; exact rfl; (intro w' hw' j' v' hj'; exact SV.cell ((hsh _ _ _ _ (by exact rL_) hw').2.2 0 _ _ hd0 hr0).slices hsl hj'); exact rfl; exact rfl) | ((first | ((with_reducible apply o_call_pure (f := 20)); exact rfl) | ((with_reducible apply q_call_pure (f := 20)); exact rfl; kernel_rfl; exact rfl; exact sJ_)); exact eV_; exact (fun w hw => same_yes e13 w ((hsh _ _ _ _ (by exact rL_) hw).2.2 1 _ _ hd1 hr1).items (SV.lit [1, 3, 4, 2, 5] encI_len hw (by exact aT_) rfl rfl (by decide)))) | ((first | ((with_reducible apply o_call_pure (f := 24)); exact rfl) | ((with_reducible apply q_call_pure (f := 24)); exact rfl; kernel_rfl; exact rfl; exact sJ_)); exact eV_; exact (fun w hw => lists_is e05 w (((hsh _ _ _ _ (by exact rL_) hw).2.2 0 _ _ hd0 hr0).stk' rfl) (SV.lit ([(_, 3, 3), (_, 2, 2)] : List SD) encS_len hw (by exact aT_) rfl rfl (by decide)) (LL.two' (x := [1, 3, 4]) (y := [2, 5]) encI_len hw (by exact aT_) (by exact aT_) (by decide) (by decide)))) | ((first | ((with_reducible apply o_call_pure (f := 24)); exact rfl) | ((with_reducible apply q_call_pure (f := 24)); exact rfl; kernel_rfl; exact rfl; exact sJ_)); exact eV_; exact (fun w hw => lists_is e14 w (((hsh _ _ _ _ (by exact rL_) hw).2.2 1 _ _ hd1 hr1).stk' rfl) (SV.lit ([(_, 3, 3), (_, 2, 2)] : List SD) encS_len hw (by exact aT_) rfl rfl (by decide)) (LL.two' (x := [3, 2, 5]) (y := [1, 4]) encI_len hw (by exact aT_) (by exact aT_) (by decide) (by decide)))) | ((first | ((with_reducible apply o_call_pure (f := 36)); exact rfl) | ((with_reducible apply q_call_pure (f := 36)); exact rfl; kernel_rfl; exact rfl; exact sJ_)); exact eV_; exact (fun w hw => atp_calls Plt.ex20_valid Plt.ex20_w1 w (ex_plV _ _ _ _ (by exact rL_) hw))) | ((first | ((with_reducible apply o_call_pure (f := 36)); exact rfl) | ((with_reducible apply q_call_pure (f := 36)); exact rfl; kernel_rfl; exact rfl; exact sJ_)); exact eV_; exact (fun w hw => atp_calls Plt.ex20_valid Plt.ex20_w2 w (ex_plV _ _ _ _ (by exact rL_) hw))) | ((first | ((with_reducible apply o_call_pure (f := 36)); exact rfl) | ((with_reducible apply q_call_pure (f := 36)); exact rfl; kernel_rfl; exact rfl; exact sJ_)); exact eV_; exact (fun w hw => atp_calls Plt.ex20_valid Plt.ex20_w3 w (ex_plV _ _ _ _ (by exact rL_) hw))) | ((first | ((with_reducible apply o_call_pure (f := 36)); exact rfl) | ((with_reducible apply q_call_pure (f := 36)); exact rfl; kernel_rfl; exact rfl; exact sJ_)); exact eV_; exact (fun w hw => atp_calls Plt.ex20_valid Plt.ex20_w4 w (ex_plV _ _ _ _ (by exact rL_) hw))) | ((with_reducible first | apply o_move | apply o_assign | apply o_faddr0 | apply o_not_d); exact rfl; exact rfl) | ((with_reducible first | apply o_faddr); exact rfl; exact rfl) | ((with_reducible apply gdo_load); first | refine wo_load (h := ?_) | refine wo_loadAll (h := ?_) | refine wo_loadC (h := ?_) | refine wo_ldV (h := ?_) | refine wo_ldF (h := ?_)) | ((with_reducible first | apply o_eql | apply o_neq | apply o_extract); exact rfl; exact rfl; exact rfl) | ((with_reducible apply gdo_binOp_neq); refine wo_neq_s (h := ?_)) | ((with_reducible apply o_not); exact rfl; exact rfl) | ((with_reducible apply o_pick_f); exact rfl; exact fF_; exact rfl; exact rfl) | ((with_reducible apply o_alloc); exact rfl; intro _) | ((with_reducible apply gdo_store); first | refine wo_store1 (h := ?_) | refine wo_storeA (h := ?_)) | ((with_reducible apply gdo_build); first | refine wo_build (h := ?_)) | ((with_reducible apply o_len); infer_instance; exact rfl; exact rfl) | ((with_reducible apply gdo_buildSlice); refine wo_buildSlice (h := fun _ => ?_)) | ((with_reducible first | apply g_run); exact rfl; exact gG_) | ((with_reducible first | apply c_seq | apply c_block | apply c_region | apply c_nil | apply c_ret | apply c_exit | apply c_skip)) | ((with_reducible apply c_cond_f); exact rfl; exact fF_) | ((with_reducible first | apply e_then | apply e_then_ret | apply e_then_exit | apply e_in | apply e_in_ret | apply e_in_same)) | ((with_reducible first | apply o_appd | apply o_appn)))
  simp only [exN, exQ, sdV, List.cons_append, List.nil_append]
  repeat' (first | ((with_reducible apply o_idx (m := 0)); infer_instance; infer_instance; exact rfl; exact rfl; exact rfl; exact rfl; omega) | ((with_reducible apply o_idx (m := 1)); infer_instance; infer_instance; exact rfl; exact rfl; exact rfl; exact rfl; omega) | ((first | ((with_reducible apply o_call_new (f := 11)); exact rfl) | ((with_reducible apply q_call_new (f := 11)); exact rfl; exact rfl; exact sJ_)); exact eV_; exact (fun w hw => play_calls31 (Plt.calm_of Plt.ex14_valid) w (ex_plV (t := 14) _ _ _ _ (by unfold exN; exact rL_) hw)); rintro v NS_ ⟨as_, cs_, sds, rfl, ⟨hshs, hsl2⟩, oS⟩ <;> (try simp only [List.cons_append, List.nil_append])) | ((with_reducible first | apply o_move | apply o_assign | apply o_faddr0 | apply o_not_d); exact rfl; exact rfl) | ((with_reducible first | apply o_faddr); exact rfl; exact rfl) | ((with_reducible apply gdo_load); first | refine wo_load (h := ?_) | refine wo_loadAll (h := ?_) | refine wo_loadC (h := ?_) | refine wo_ldV (h := ?_) | refine wo_ldF (h := ?_)) | ((with_reducible first | apply o_eql | apply o_neq | apply o_extract); exact rfl; exact rfl; exact rfl) | ((with_reducible apply o_pick_t); exact rfl; exact tT_; exact rfl; exact rfl) | ((with_reducible apply gdo_store); first | refine wo_store1 (h := ?_) | refine wo_storeA (h := ?_)) | ((with_reducible apply o_len); infer_instance; exact rfl; exact rfl) | ((with_reducible first | apply g_run); exact rfl; exact gG_) | ((with_reducible first | apply c_seq | apply c_block | apply c_region | apply c_nil | apply c_ret | apply c_exit | apply c_skip)) | ((with_reducible first | apply e_then | apply e_then_ret | apply e_then_exit | apply e_in | apply e_in_ret | apply e_in_same)))
  refine st_know (fun w' hw' => RunsV.at (hshs _ _ _ _ (by exact rL_) hw') hs0) ?_
  rintro ⟨br, offr, x1, k1, x2, k2, x3, n3, k3, x4, n4, k4, x5, k5, x6, k6, x7, n7, k7, rfl, hd0, hn3, g0⟩
  refine st_know (fun w' hw' => RunsV.at (hshs _ _ _ _ (by exact rL_) hw') hs1) ?_
  rintro ⟨br', offr', y1, l1, y2, l2, y3, m3, l3, y4, m4, l4, y5, l5, y6, l6, y7, m7, l7, ebr, hd1, hm3, g1⟩
  cases ebr
  have hsi : s1.items.length = 0 := by rw [f13]; rfl
  repeat' (first | ((with_reducible apply o_pick_t); exact rfl; exact decide_eq_true (by omega); exact rfl; exact rfl) | ((with_reducible apply g_run); exact rfl; exact decide_eq_true (by omega)) | ((with_reducible apply o_idx (m := 0)); infer_instance; infer_instance; exact rfl; exact rfl; exact rfl; exact rfl; omega) | ((with_reducible apply o_idx (m := 1)); infer_instance; infer_instance; exact rfl; exact rfl; exact rfl; exact rfl; omega) | ((with_reducible apply o_ldP); infer_instance; exact rfl; (intro w' hw'; first | exact SV.cell (hshs _ _ _ _ (by exact rL_) hw').1 hd0 (g0 _ _ rfl) | exact SV.cell (hshs _ _ _ _ (by exact rL_) hw').1 hd1 (g1 _ _ rfl)); exact rfl) | ((first | ((with_reducible apply o_call_pure (f := 36)); exact rfl) | ((with_reducible apply q_call_pure (f := 36)); exact rfl; kernel_rfl; exact rfl; exact sJ_)); exact eV_; exact (fun w hw => atp_calls Plt.ex14_valid Plt.ex14_w w (ex_plV (t := 14) _ _ _ _ (by unfold exN; exact rL_) hw))) | ((with_reducible first | apply o_move | apply o_assign | apply o_faddr0 | apply o_not_d); exact rfl; exact rfl) | ((with_reducible first | apply o_faddr); exact rfl; exact rfl) | ((with_reducible apply gdo_load); first | refine wo_load (h := ?_) | refine wo_loadAll (h := ?_) | refine wo_loadC (h := ?_) | refine wo_ldV (h := ?_) | refine wo_ldF (h := ?_)) | ((with_reducible first | apply o_eql | apply o_neq | apply o_extract); exact rfl; exact rfl; exact rfl) | ((with_reducible apply o_len); infer_instance; exact rfl; exact rfl) | ((with_reducible first | apply c_seq | apply c_block | apply c_region | apply c_nil | apply c_ret | apply c_exit | apply c_skip)) | ((with_reducible first | apply e_then | apply e_then_ret | apply e_then_exit | apply e_in | apply e_in_ret | apply e_in_same)))
  apply r_body; apply res1 Try.results16; exact rV_; intro w' hw
  refine ⟨by simp, hw.below (show AO _ from by exact aO_)⟩
end Go.Proofs.Ytkhaemjoekfhiaa
namespace Go.Sx
open Go Go.RowKit
section
variable {P : Program} {n : Nat} {D : List Deferred} {w0 : World} {F : List (Nat × Value)} {L : List Ent} {J J1 : Made} {Φ : Specs} {X : Act → World → Prop} {kq : Nat} {ops : Array Oper}
variable {d : Tmp} {ty : TypeId} {pos : String} {af : Array Edge} {rest : List Oper}
theorem q_ldP {t : TypeId} {x : Operand} {b p : Nat} {v : Value} (hA : TA P t false) (hx : ev F x = some (.pointer (some ⟨b, p, none⟩))) (hΦ : Φ kq = none) (hJ : SubJ ((anc ops).getD kq 0) J1 J) (hc : ∀ w, Rep w0 w (ents J1 L) → w.cell? ⟨b, p, none⟩ = some v)
    (hd : Nat.ble (d + 1) n = true) (h : St n D w0 ((d, v) :: F) L (WQ P ops w0 L Φ X (kq + 1) J rest)) : St n D w0 F L (WQ P ops w0 L Φ X kq J (⟨some d, .load t x, ty, pos, af, none⟩ :: rest)) :=
  q_val rfl hd hΦ hJ (fun a w ha hw => by
    simp [execOp, ha.eval hx, Instr.loadAt, Instr.sureAddr, loadVar, TA.h (P := P) (t := t), hc w hw]) h
end
end Go.Sx
namespace Go.Proofs.Ytkhaemjoekfhiaa
open Go Go.Sx Go.RowKit
attribute [local irreducible] WL WC WQ WR WB WF QB St Exit.then Exit.inBlock Exit.noGoto bodyPost roundPost beginK YR RG BM Calls B AgainD MeetD
/-! ## a plant that built made, as it lies -/
theorem built_plv {p : Plt.Plant} {am ai ap : Option Addr} {cm ci cp : Nat} {ds : List MD} {ys : List PD} {NM NI NP NX : List Ent} {TM TI TP : TypeId} (hM : OW TM 5 encMD (.slice am p.ms.length cm) ds NM) (hI : OW TI 3 encItem (.slice ai p.items.length ci) p.items NI) (hP : OW TP 6 encPD (.slice ap p.passes.length cp) ys NP)
    (hl : ds.length = p.ms.length ∧ ys.length = p.passes.length) (hX : Shw NX (fun w => ∀ (i : Nat) (d : MD) (m : Plt.Mach), ds[i]? = some d → p.ms[i]? = some m → MachV w d m)) (hY : Shw NX (fun w => ∀ (i : Nat) (d : PD) (y : Plt.Pass), ys[i]? = some d → p.passes[i]? = some y → PassV w d y)) :
    Shw (NM ++ (NI ++ (NP ++ NX))) (fun w => PlV w ⟨(am, p.ms.length, cm), (ai, p.items.length, ci), (ap, p.passes.length, cp), ds, ys⟩ p) := fun w0 w L L0 hr hw =>
  ⟨(Shw.left (Shw.ow encMD_len hM)) w0 w L L0 hr hw, (Shw.right (Shw.left (Shw.ow encItem_len hI))) w0 w L L0 hr hw, (Shw.right (Shw.right (Shw.left (Shw.ow encPD_len hP)))) w0 w L L0 hr hw, hl.1, hl.2,
    (Shw.right (Shw.right (Shw.right hX))) w0 w L L0 hr hw, (Shw.right (Shw.right (Shw.right hY))) w0 w L L0 hr hw⟩
def builtψ (p : Plt.Plant) (v : Value) (N : List Ent) : Prop := ∃ am cm ai ci ap cp ds ys, v = .agg #[.slice am p.ms.length cm, .slice ai p.items.length ci, .slice ap p.passes.length cp] ∧
  Shw N (fun w => PlV w ⟨(am, p.ms.length, cm), (ai, p.items.length, ci), (ap, p.passes.length, cp), ds, ys⟩ p) ∧ ∀ x ∈ N, x.own = true
theorem built_is {v0 v1 v2 v3 : Value} {x : Plt.Sk} {p : Plt.Plant} (hp : Plt.built x = p) (w : World) (h0 : SV w 1 encB v0 x.ms) (h1 : SV w 1 encB v1 x.shs) (h2 : SV w 1 encB v2 x.its) (h3 : SV w 1 encB v3 x.ps) :
    Calls Try.prog 10 #[.agg #[v0, v1, v2, v3]] w fun e w' => ∃ v N, e = .returned v ∧ builtψ p v N ∧ Rep w w' N ∧ ∀ x ∈ N, x.own = true := by
  subst hp
  refine (built_calls w h0 h1 h2 h3).mono fun e w' ⟨v, N, h1, h2, h3, h4⟩ => ⟨v, N, h1, ?_, h3, h4⟩
  obtain ⟨am, cm, ai, ci, ap, cp, ds, ys, NM, NI, NP, NX, hv, ⟨gM, gI, gP⟩, ⟨hN, oX⟩, hl, hMX, hPX⟩ := h2
  subst hN
  exact ⟨am, cm, ai, ci, ap, cp, ds, ys, hv, built_plv gM gI gP hl hMX hPX, h4⟩
/-- What the laws know of a plant that built made. -/
structure Nice (p : Plt.Plant) : Prop where
  valid : Plt.validF p = (0, 0)
  ms : 1 ≤ p.ms.length ∧ p.ms.length ≤ 3
  items : p.items.length ≤ 40
  passes : p.passes.length ≤ 6
theorem nice_built (x : Plt.Sk) : Nice (Plt.built x) :=
  ⟨Plt.built_valid x, Plt.bMs_len x, by show (Plt.bIs x).length ≤ 40; unfold Plt.bIs; rw [Plt.bIsN_len]; omega, by show (Plt.bAt (Plt.bMs x) (Plt.bIs x) x.ps (min x.ps.length 6)).2.length ≤ 6; rw [Plt.bAt_len]; omega⟩
/-- What a call of a law knows of one run. -/
theorem run_slices {p : Plt.Plant} (hc : Plt.Calm p) {i : Nat} {y : Plt.Pass} {r : Plt.Run} (hy : p.passes[i]? = some y) (hr : (Plt.playF p)[i]? = some r) : r.slices.length ≤ 200 ∧ ∀ s ∈ r.slices, 0 ≤ s.1 ∧ s.1 ≤ s.2 ∧ s.2 ≤ 1051898399 := by
  have h := Plt.runF_slices (stops := Plt.stopsF p.items) (hc.job i y hy)
  have hg := Plt.playF_get hy
  rw [hr] at hg
  rw [← Option.some.inj hg] at h
  exact h
end Go.Proofs.Ytkhaemjoekfhiaa
namespace Go.Sx.Plt
/-! ## the last run that has sorted an item -/
def lastI : Option Nat → Int
  | none => -1
  | some k => k
/-- The same, after the first n items of run k. -/
def keepsF (p : Plant) (x t : Int) (k : Nat) (r : Run) (n : Nat) : Int := if x ∈ r.items.take n ∧ sortedAt p x t k = true then (k : Int) else lastI (lastF p x t k)
/-- Where an item is, by the last run that has sorted it. -/
theorem lastF_some {p : Plant} {x t : Int} {k : Nat} : ∀ {n : Nat}, lastF p x t n = some k → k < n ∧ sortedAt p x t k = true
  | 0, h => by simp [lastF] at h
  | n + 1, h => by
    rw [lastF] at h
    split at h
    · rename_i hs; cases h; exact ⟨by omega, hs⟩
    · have := lastF_some h; exact ⟨by omega, this.2⟩
theorem sorted_mem {p : Plant} {x t : Int} {k : Nat} (h : sortedAt p x t k = true) : ∃ r y, (playF p)[k]? = some r ∧ p.passes[k]? = some y ∧ x ∈ r.items := by
  unfold sortedAt at h
  split at h
  · rename_i r y h1 h2
    refine ⟨r, y, h1, h2, ?_⟩
    unfold sortedF at h
    split at h
    · cases h
    · rename_i i hi
      exact List.mem_of_getElem? (idxF_some hi).1
  · cases h
theorem idx_items {p : Plant} (hn : (p.items.map Item.id).Nodup) {i : Nat} {y : Item} (h : p.items[i]? = some y) : idxF y.id (p.items.map Item.id) = some i := by
  refine idxF_at (fun j hj e => ?_) (by rw [List.getElem?_map, h]; rfl)
  obtain ⟨l1, f1⟩ := List.getElem?_eq_some_iff.1 e
  obtain ⟨l2, f2⟩ := List.getElem?_eq_some_iff.1 (show (p.items.map Item.id)[i]? = some y.id by rw [List.getElem?_map, h]; rfl)
  have := List.pairwise_iff_getElem.1 hn j i l1 l2 hj
  rw [f1, f2] at this
  exact this rfl
theorem where_at {p : Plant} (hn : (p.items.map Item.id).Nodup) {i : Nat} {y : Item} (h : p.items[i]? = some y) {t : Int} (ht : 0 ≤ t ∧ t ≤ 1051898399) : whereF p y.id t = (match lastF p y.id t p.passes.length with
    | some n => (match (playF p)[n]? with | some r => placeF r y.id | none => (0, 0, 0))
    | none => (1, 0, y.batch), 0) := by
  unfold whereF
  rw [idx_items hn h]
  dsimp only
  rw [if_neg (by omega), if_neg (by omega), h]
  cases lastF p y.id t p.passes.length <;> rfl
end Go.Sx.Plt
namespace Go.Sx.Plt
open Go.Proofs.Ytkhaemjoekfhiaa (mslF_keys psF tkF psF_snoc tkF_snoc)
/-- The stacker of a stop; -1 if it has none, or the item is not read. -/
def toF (l : List Row) (stop : Int) (b : Bool) : Int := if b = true then (asF stop (tableF l)).getD (-1) else -1
theorem Ran.mem {p : Plant} (hv : Valid p) {i : Nat} {y : Pass} (hy : p.passes[i]? = some y) {m : Mach} (hm : asF y.mach (mslF p.ms) = some (m.caps.length : Int)) {r : Run} {ready : Int} (hc : Ran p (hallAt p i) m y r ready) : (∀ x ∈ r.items, x ∈ p.items.map Item.id) ∧ r.items.Nodup ∧ r.items.length ≤ 2000 := by
  have e := (takeSrc_spec hc.take).1
  rw [List.nil_append] at e
  obtain ⟨_, h1, h2⟩ := hv.feeds (Inv.all hv i) hy hm e
  exact ⟨h1, h2, by rw [hc.items hv hy]; exact hv.taken_len hy⟩
end Go.Sx.Plt
namespace Go.Proofs.Ytkhaemjoekfhiaa
open Go Go.Sx Go.RowKit
attribute [local irreducible] WL WC WQ WR WB WF QB St Exit.then Exit.inBlock Exit.noGoto bodyPost roundPost beginK YR RG BM Calls B AgainD MeetD
theorem PassV.eqs {w : World} {d : PD} {y : Plt.Pass} (h : PassV w d y) : ∃ x1 k1 x2 k2 x3 k3, d = ⟨y.id, y.mach, y.rel, (x1, y.src.length, k1), (x2, y.table.length, k2), (x3, y.unread.length, k3)⟩ := by
  obtain ⟨x1, k1, e1⟩ := h.src.sd
  obtain ⟨x2, k2, e2⟩ := h.table.sd
  obtain ⟨x3, k3, e3⟩ := h.unread.sd
  refine ⟨x1, k1, x2, k2, x3, k3, ?_⟩
  obtain ⟨a, b, c, i1, i2, i3⟩ := d
  obtain rfl : a = y.id := h.id
  obtain rfl : b = y.mach := h.mach
  obtain rfl : c = y.rel := h.rel
  dsimp only at e1 e2 e3
  rw [e1, e2, e3]
theorem PlV.passAt {w : World} {m i : SD} {ap : Option Addr} {n cp k : Nat} {ds : List MD} {ys : List PD} {p : Plt.Plant} {y : Plt.Pass} (h : PlV w ⟨m, i, (ap, n, cp), ds, ys⟩ p) (hy : p.passes[k]? = some y) : ∃ bP oP x1 k1 x2 k2 x3 k3, ap = some ⟨bP, oP, none⟩ ∧
    ys[k]? = some ⟨y.id, y.mach, y.rel, (x1, y.src.length, k1), (x2, y.table.length, k2), (x3, y.unread.length, k3)⟩ ∧
    ∀ (j : Nat) (u : Value), ([.int .i64 y.id, .int .i64 y.mach, .int .i64 y.rel, .slice x1 y.src.length k1, .slice x2 y.table.length k2, .slice x3 y.unread.length k3] : List Value)[j]? = some u → (encPD ⟨y.id, y.mach, y.rel, (x1, y.src.length, k1), (x2, y.table.length, k2), (x3, y.unread.length, k3)⟩)[j]? = some u := by
  have hl := (List.getElem?_eq_some_iff.1 hy).1
  have hlp := h.lp
  dsimp only at hlp
  obtain ⟨d, hd⟩ : ∃ d, ys[k]? = some d := ⟨_, List.getElem?_eq_getElem (by omega)⟩
  obtain ⟨x1, k1, x2, k2, x3, k3, rfl⟩ := (h.pass k d y hd hy).eqs
  obtain ⟨bP, oP, e⟩ := SV.ptr h.ps hd
  exact ⟨bP, oP, x1, k1, x2, k2, x3, k3, e, hd, fun _ _ h => h⟩
theorem PlV.machAt {w : World} {i ap : SD} {am : Option Addr} {n cm k : Nat} {ds : List MD} {ys : List PD} {p : Plt.Plant} {m : Plt.Mach} (h : PlV w ⟨(am, n, cm), i, ap, ds, ys⟩ p) (hm : p.ms[k]? = some m) : ∃ bM oM x1 k1 x2 k2, am = some ⟨bM, oM, none⟩ ∧
    ds[k]? = some ⟨m.id, m.sweeps, m.rate, (x1, m.caps.length, k1), (x2, m.shifts.length, k2)⟩ ∧
    ∀ (j : Nat) (u : Value), ([.int .i64 m.id, .int .i64 m.sweeps, .int .i64 m.rate, .slice x1 m.caps.length k1, .slice x2 m.shifts.length k2] : List Value)[j]? = some u → (encMD ⟨m.id, m.sweeps, m.rate, (x1, m.caps.length, k1), (x2, m.shifts.length, k2)⟩)[j]? = some u := by
  have hl := (List.getElem?_eq_some_iff.1 hm).1
  have hlm := h.lm
  dsimp only at hlm
  obtain ⟨d, hd⟩ : ∃ d, ds[k]? = some d := ⟨_, List.getElem?_eq_getElem (by omega)⟩
  obtain ⟨x1, k1, x2, k2, rfl⟩ := (h.machs k d m hd hm).eqs
  obtain ⟨bM, oM, e⟩ := SV.ptr h.ms hd
  exact ⟨bM, oM, x1, k1, x2, k2, e, hd, fun _ _ h => h⟩
theorem machine_is {q : PlD} {p : Plt.Plant} {k : Nat} {m : Plt.Mach} {id : Int} {x1 x2 : Option Addr} {k1 k2 : Nat} (hn : (p.ms.map Plt.Mach.id).Nodup) (hid : m.id = id) (hd : q.ds[k]? = some ⟨m.id, m.sweeps, m.rate, (x1, m.caps.length, k1), (x2, m.shifts.length, k2)⟩) (hm : p.ms[k]? = some m) (w : World) (h : PlV w q p) :
    Calls Try.prog 17 #[plV q, .int .i64 id] w fun e w' => e = .returned (.agg #[.int .i64 m.id, .int .i64 m.sweeps, .int .i64 m.rate, .slice x1 m.caps.length k1, .slice x2 m.shifts.length k2]) ∧ Below w.heap.size w w' := by
  subst hid; exact machine_calls hn hd hm w h
end Go.Proofs.Ytkhaemjoekfhiaa
namespace Go.Sx.Plt
/-- The rate of a run in a minute. -/
def rateIn (t rate : Int) : List (Int × Int) → Int
  | [] => 0
  | s :: r => (if s.1 ≤ t ∧ t < s.2 then rate else 0) + rateIn t rate r
theorem rateIn_snoc (t rate : Int) (s : Int × Int) : ∀ l, rateIn t rate (l ++ [s]) = rateIn t rate l + if s.1 ≤ t ∧ t < s.2 then rate else 0
  | [] => by simp [rateIn]
  | a :: r => by rw [List.cons_append, rateIn, rateIn, rateIn_snoc t rate s r]; omega
theorem rateIn_bd {t rate : Int} (hr : 0 ≤ rate ∧ rate ≤ 1000) : ∀ l : List (Int × Int), 0 ≤ rateIn t rate l ∧ rateIn t rate l ≤ 1000 * l.length
  | [] => by simp [rateIn]
  | a :: r => by
    have := rateIn_bd (t := t) hr r
    rw [rateIn, List.length_cons]
    split <;> omega
theorem rateIn_one {t rate : Int} (hr : 0 ≤ rate ∧ rate ≤ 1000) : ∀ {l : List (Int × Int)} {s : Int × Int}, s ∈ l → s.1 ≤ t ∧ t < s.2 → rate ≤ rateIn t rate l
  | [], _, h, _ => by simp at h
  | a :: r, s, h, hs => by
    have h1 := rateIn_bd (t := t) hr r
    rw [rateIn]
    rcases List.mem_cons.1 h with rfl | h
    · rw [if_pos hs]; omega
    · have := rateIn_one hr h hs
      split <;> omega
def rateAt (p : Plant) (t : Int) (n : Nat) : Int := match (playF p)[n]?, p.passes[n]? with
  | some r, some y => rateIn t (machF p.ms y.mach).rate r.slices
  | _, _ => 0
def rateTo (p : Plant) (t : Int) : Nat → Int
  | 0 => 0
  | n + 1 => rateTo p t n + rateAt p t n
/-! ## minutes of a chain -/
theorem minute_ge {t : Int} : ∀ {l : List (Int × Int)} {e q : Int}, Chain e l → 0 ≤ q → minuteF l q = some t → e ≤ t
  | [], _, _, _, _, h => by simp [minuteF] at h
  | s :: r, e, q, hc, hq, h => by
    rw [minuteF] at h
    split at h
    · cases h; have := hc.1; omega
    · have := minute_ge hc.2 (by omega) h
      have := hc.1; omega
theorem minute_inj {t : Int} : ∀ {l : List (Int × Int)} {e q q' : Int}, Chain e l → 0 ≤ q → 0 ≤ q' → minuteF l q = some t → minuteF l q' = some t → q = q'
  | [], _, _, _, _, _, _, h, _ => by simp [minuteF] at h
  | s :: r, e, q, q', hc, hq, hq', h, h' => by
    rw [minuteF] at h h'
    have h1 := hc.1
    split at h
    · simp only [Option.some.injEq] at h
      split at h'
      · simp only [Option.some.injEq] at h'; omega
      · have := minute_ge hc.2 (by omega) h'; omega
    · split at h'
      · simp only [Option.some.injEq] at h'
        have := minute_ge hc.2 (by omega) h; omega
      · have := minute_inj hc.2 (by omega) (by omega) h h'; omega
theorem minute_in {t : Int} : ∀ {l : List (Int × Int)} {q : Int}, 0 ≤ q → minuteF l q = some t → ∃ s ∈ l, s.1 ≤ t ∧ t < s.2
  | [], _, _, h => by simp [minuteF] at h
  | s :: r, q, hq, h => by
    rw [minuteF] at h
    split at h
    · cases h; exact ⟨s, List.mem_cons_self, by omega, by omega⟩
    · obtain ⟨x, hx, h1⟩ := minute_in (by omega) h
      exact ⟨x, List.mem_cons_of_mem _ hx, h1⟩
/-! ## what moves -/
theorem sorted_mono {p : Plant} {x t t' : Int} {k : Nat} (ht : t ≤ t') (h : sortedAt p x t k = true) : sortedAt p x t' k = true := by
  unfold sortedAt at h ⊢
  split at h
  · unfold sortedF at h ⊢
    split at h
    · cases h
    · (try dsimp only at h ⊢)
      split at h
      · cases h
      · rename_i m hm
        simp only [decide_eq_true_eq] at h ⊢
        omega
  · cases h
/-- Whether an item is sorted by run k in the minute t. -/
def hitF (p : Plant) (t : Int) (k : Nat) (y : Item) : Bool := sortedAt p y.id (t + 1) k && !sortedAt p y.id t k
theorem last_same {p : Plant} {y : Item} {t : Int} : ∀ {n : Nat}, (∀ k, k < n → hitF p t k y = false) → lastF p y.id t n = lastF p y.id (t + 1) n
  | 0, _ => rfl
  | n + 1, h => by
    rw [lastF, lastF, last_same fun k hk => h k (by omega)]
    have h1 := h n (by omega)
    unfold hitF at h1
    have h2 : sortedAt p y.id t n = sortedAt p y.id (t + 1) n := by
      cases hs : sortedAt p y.id t n with
      | true => rw [sorted_mono (by omega) hs]
      | false => rw [hs] at h1; simpa using h1.symm
    rw [h2]
theorem last_mono {p : Plant} {x t t' : Int} (ht : t ≤ t') : ∀ {n : Nat}, lastF p x t n ≠ none → lastF p x t' n ≠ none
  | 0, h => h
  | n + 1, h => by
    rw [lastF] at h ⊢
    split at h
    · rename_i hs; rw [if_pos (sorted_mono ht hs)]; simp
    · split
      · simp
      · exact last_mono ht h
def movedB (p : Plant) (t : Int) (y : Item) : Bool := decide ((whereF p y.id t).1 ≠ (whereF p y.id (t + 1)).1)
theorem moved_hit {p : Plant} (hn : (p.items.map Item.id).Nodup) {y : Item} (hy : y ∈ p.items) {t : Int} (ht : 0 ≤ t ∧ t + 1 ≤ 1051898399) (h : movedB p t y = true) : ∃ k, k < p.passes.length ∧ hitF p t k y = true := by
  obtain ⟨i, hi⟩ := List.getElem?_of_mem hy
  apply Classical.byContradiction
  intro hne
  have hall : ∀ k, k < p.passes.length → hitF p t k y = false := fun k hk => by
    cases hh : hitF p t k y with
    | true => exact (hne ⟨k, hk, hh⟩).elim
    | false => rfl
  have := last_same hall
  unfold movedB at h
  rw [where_at hn hi (by omega), where_at hn hi (by omega), this] at h
  simp at h
theorem hits_rate {p : Plant} (hv : Valid p) {k : Nat} {y : Pass} {r : Run} (hy : p.passes[k]? = some y) (hr : (playF p)[k]? = some r) {t : Int} : (((p.items.filter (hitF p t k)).length : Nat) : Int) ≤ rateAt p t k := by
  obtain ⟨j, m, hm, hmid, hmr, hre, hh, hmsl, hcs⟩ := hv.run hy hr
  have hmf : machF p.ms y.mach = m := by rw [← hmid]; exact machF_of hv.mnd hm
  have hrate := hmr.2.1
  have hra : rateAt p t k = rateIn t m.rate r.slices := by unfold rateAt; rw [hr, hy]; dsimp only; rw [hmf]
  rw [hra]
  have hbd := rateIn_bd (t := t) (rate := m.rate) (by omega) r.slices
  cases hL : p.items.filter (hitF p t k) with
  | nil => simp; omega
  | cons z L =>
    rw [← hL]
    -- the minute of an item that is hit
    have key : ∀ u ∈ p.items.filter (hitF p t k), ∃ i : Nat, r.items[i]? = some u.id ∧ minuteF r.slices ((i : Int) / m.rate) = some t := fun u hu => by
      have hb := (List.mem_filter.1 hu).2
      unfold hitF sortedAt at hb
      rw [hr, hy] at hb
      dsimp only at hb
      rw [hmf] at hb
      unfold sortedF at hb
      cases hi : idxF u.id r.items with
      | none => rw [hi] at hb; simp at hb
      | some i =>
        rw [hi] at hb
        dsimp only at hb
        cases hmi : minuteF r.slices ((i : Int) / m.rate) with
        | none => rw [hmi] at hb; simp at hb
        | some v =>
          rw [hmi] at hb
          simp at hb
          exact ⟨i, (idxF_some hi).1, by rw [hmi]; congr 1; omega⟩
    rcases hcs with hc | ⟨ready, hc⟩
    · obtain ⟨i, hi, _⟩ := key z (by rw [hL]; exact List.mem_cons_self)
      rw [hc.eq] at hi
      simp [missed] at hi
    · have hch : Chain 0 r.slices := by
        rw [hc.slices]
        split
        · trivial
        · have h1 := (right_shifts hmr).2
          exact Chain.mono (by omega) (slices_chain (need_nonneg hrate.1) h1)
      obtain ⟨i0, h0, hm0⟩ := key z (by rw [hL]; exact List.mem_cons_self)
      have hq0 : 0 ≤ (i0 : Int) / m.rate := Int.ediv_nonneg (by omega) (by omega)
      obtain ⟨s, hs, hst⟩ := minute_in hq0 hm0
      have h1 := rateIn_one (rate := m.rate) (by omega) hs hst
      obtain ⟨R, hR⟩ := Int.eq_ofNat_of_zero_le (show 0 ≤ m.rate by omega)
      have hRp : 0 < R := by omega
      refine Int.le_trans ?_ h1
      rw [hR]
      have hlen : ((p.items.filter (hitF p t k)).map Item.id).length ≤ ((r.items.drop (i0 / R * R)).take R).length := by
        refine len_of_count fun x => ?_
        by_cases hx : x ∈ (p.items.filter (hitF p t k)).map Item.id
        · obtain ⟨u, hu, rfl⟩ := List.mem_map.1 hx
          obtain ⟨i, hi, hmi⟩ := key u hu
          have hqi : 0 ≤ (i : Int) / m.rate := Int.ediv_nonneg (by omega) (by omega)
          have heq := minute_inj hch hqi hq0 hmi hm0
          rw [hR] at heq
          have heq2 : i / R = i0 / R := by
            have e1 : ((i / R : Nat) : Int) = (i : Int) / (R : Int) := Int.natCast_ediv i R
            have e2 : ((i0 / R : Nat) : Int) = (i0 : Int) / (R : Int) := Int.natCast_ediv i0 R
            omega
          have h3 : i / R * R ≤ i := Nat.div_mul_le_self i R
          have h4 : i < i / R * R + R := by have := Nat.div_add_mod' i R; have := Nat.mod_lt i hRp; omega
          have hnd : ((p.items.filter (hitF p t k)).map Item.id).Nodup := List.Sublist.nodup (List.Sublist.map _ List.filter_sublist) hv.ind
          have h5 := List.nodup_iff_count.1 hnd u.id
          have h6 : u.id ∈ (r.items.drop (i0 / R * R)).take R := by
            rw [← heq2]
            refine List.mem_of_getElem? (i := i - i / R * R) ?_
            rw [List.getElem?_take, if_pos (by omega), List.getElem?_drop, show i / R * R + (i - i / R * R) = i by omega]
            exact hi
          have := List.count_pos_iff.2 h6
          omega
        · rw [List.count_eq_zero.2 hx]; exact Nat.zero_le _
      rw [List.length_map] at hlen
      have : ((r.items.drop (i0 / R * R)).take R).length ≤ R := by rw [List.length_take]; omega
      omega
theorem countP_or {α : Type} (f g h : α → Bool) (hf : ∀ a, f a = true → g a = true ∨ h a = true) : ∀ l : List α, (l.filter f).length ≤ (l.filter g).length + (l.filter h).length
  | [] => by simp
  | a :: r => by
    have ih := countP_or f g h hf r
    simp only [List.filter_cons]
    cases hfa : f a with
    | false =>
      cases g a <;> cases h a <;> simp <;> omega
    | true =>
      rcases hf a hfa with hg | hh
      · rw [hg]; cases h a <;> simp <;> omega
      · rw [hh]; cases g a <;> simp <;> omega
theorem hits_to {p : Plant} (hv : Valid p) {t : Int} : ∀ n, n ≤ p.passes.length → (((p.items.filter fun y => decide (∃ k, k < n ∧ hitF p t k y = true)).length : Nat) : Int) ≤ rateTo p t n
  | 0, _ => by
    rw [rateTo, List.filter_eq_nil_iff.2 (by simp)]
    simp
  | n + 1, hn => by
    have ih := hits_to hv (t := t) n (by omega)
    obtain ⟨y, hy⟩ : ∃ y, p.passes[n]? = some y := ⟨_, List.getElem?_eq_getElem (by omega)⟩
    obtain ⟨r, hr⟩ := Valid.get hy
    have h1 := hits_rate hv hy hr (t := t)
    have h2 := countP_or (fun y => decide (∃ k, k < n + 1 ∧ hitF p t k y = true)) (fun y => decide (∃ k, k < n ∧ hitF p t k y = true)) (hitF p t n) (fun y h => by
      obtain ⟨k, hk, hh⟩ := of_decide_eq_true h
      by_cases e : k = n
      · subst e; exact .inr hh
      · exact .inl (decide_eq_true ⟨k, by omega, hh⟩)) p.items
    rw [rateTo]
    omega
theorem moved_le {p : Plant} (hv : Valid p) {t : Int} (ht : 0 ≤ t ∧ t + 1 ≤ 1051898399) : (((p.items.filter (movedB p t)).length : Nat) : Int) ≤ rateTo p t p.passes.length := by
  have h1 := hits_to hv (t := t) p.passes.length (Nat.le_refl _)
  have h2 : (p.items.filter (movedB p t)).length ≤ (p.items.filter fun y => decide (∃ k, k < p.passes.length ∧ hitF p t k y = true)).length := by
    rw [← List.countP_eq_length_filter, ← List.countP_eq_length_filter]
    exact List.countP_mono_left fun y hy hm => decide_eq_true (moved_hit hv.ind hy ht hm)
  omega
theorem moved_snoc {p : Plant} {t : Int} {i : Nat} {y : Item} (h : p.items[i]? = some y) : ((((p.items.take (i + 1)).filter (movedB p t)).length : Nat) : Int) = (((p.items.take i).filter (movedB p t)).length : Int) + if movedB p t y = true then 1 else 0 := by
  rw [Go.Proofs.Ytkhaemjoekfhiaa.take_snoc h, List.filter_append, List.length_append]
  cases hm : movedB p t y <;> simp [hm]
theorem place_kind (r : Run) (x : Int) : (placeF r x).1 = 2 ∨ (placeF r x).1 = 3 ∨ (placeF r x).1 = 4 := by
  unfold placeF
  split
  · exact .inl rfl
  · split
    · exact .inr (.inl rfl)
    · exact .inr (.inr rfl)
/-- An item never goes back to its batch. -/
theorem no_back {p : Plant} (hv : Valid p) {i : Nat} {y : Item} (h : p.items[i]? = some y) {t : Int} (ht : 0 ≤ t ∧ t + 1 ≤ 1051898399) : (whereF p y.id t).1.1 ≠ 1 → (whereF p y.id (t + 1)).1.1 ≠ 1 := by
  rw [where_at hv.ind h (by omega), where_at hv.ind h (by omega)]
  dsimp only
  intro h1
  have hne : lastF p y.id t p.passes.length ≠ none := fun e => by rw [e] at h1; exact h1 rfl
  have hne2 := last_mono (show t ≤ t + 1 by omega) hne
  cases hl : lastF p y.id (t + 1) p.passes.length with
  | none => exact (hne2 hl).elim
  | some n =>
    dsimp only
    obtain ⟨hn, hs⟩ := lastF_some hl
    obtain ⟨r, _, hr, _, _⟩ := sorted_mem hs
    rw [hr]
    dsimp only
    have := place_kind r y.id
    omega
end Go.Sx.Plt
namespace Go.Proofs.Ytkhaemjoekfhiaa
open Go Go.Sx Go.RowKit
section
variable {r : Option Nat} {P : Program} {n : Nat} {D : List Deferred} {w0 : World} {F : List (Nat × Value)} {L : List Ent} {Q : Exit → Act → World → Prop} {ops : Array Oper}
variable {d : Tmp} {ty : TypeId} {pos : String} {af : Array Edge} {rest : List Oper}
theorem o_rem8E {x y : Operand} {m l v : Int} {t u : TypeId} (hx : ev F x = some (.int .u8 m)) (hy : ev F y = some (.int .u8 l)) (e : m % l = v) (hr : 0 ≤ m ∧ 0 < l) (hd : Nat.ble (d + 1) n = true)
    (h : St n D w0 ((d, .int .u8 v) :: F) L (WL r P ops Q rest)) : St n D w0 F L (WL r P ops Q (⟨some d, .binOp .rem t x y u, ty, pos, af, none⟩ :: rest)) :=
  o_rem_w hx hy hd (by omega) (by rw [Int.tmod_eq_emod_of_nonneg hr.1, e]; exact h)
end
attribute [local irreducible] WL WC WQ WR WB WF QB St Exit.then Exit.inBlock Exit.noGoto bodyPost roundPost beginK YR RG BM Calls B AgainD MeetD
/-! ## PlantKeeps -/
end Go.Proofs.Ytkhaemjoekfhiaa
namespace Go.Proofs.Ytkhaemjoekfhiaa
open Go Go.Sx Go.RowKit
attribute [local irreducible] WL WC WQ WR WB WF QB St Exit.then Exit.inBlock Exit.noGoto bodyPost roundPost beginK YR RG BM Calls B AgainD MeetD
/-! ## PlantMoves -/
set_option maxHeartbeats 16000000 in
set_option maxRecDepth 100000 in
theorem moves_calls {v0 v1 v2 v3 : Value} {x : Plt.Sk} {t8 : Int} (w : World) (h0 : SV w 1 encB v0 x.ms) (h1 : SV w 1 encB v1 x.shs) (h2 : SV w 1 encB v2 x.its) (h3 : SV w 1 encB v3 x.ps) (ht8 : 0 ≤ t8 ∧ t8 ≤ 255) :
    Calls Try.prog 6 #[.agg #[v0, v1, v2, v3], .int .u8 t8] w fun e w' => e = .returned (.bool true) ∧ Below w.heap.size w w' := by
  obtain ⟨p, hp⟩ : ∃ p, Plt.built x = p := ⟨_, rfl⟩
  have hbt := fun (w' : World) (L : List Ent) (hw : Rep w w' L) (ho : AO L) => built_is hp w' (h0.keep hw ho) (h1.keep hw ho) (h2.keep hw ho) (h3.keep hw ho)
  have hnice := nice_built x
  rw [hp] at hnice
  have hv := Plt.valid_of hnice.valid
  have hcalm := Plt.calm_of hnice.valid
  have hil := hnice.items
  have hpl := hnice.passes
  have hrl0 := Plt.playF_len p
  obtain ⟨t, ht⟩ : ∃ t, t8 % 127 = t := ⟨_, rfl⟩
  have ht0 : 0 ≤ t ∧ t ≤ 126 := by omega
  have hml := Plt.moved_le hv (t := t) (by omega)
  clear h0 h1 h2 h3
  refine f_enter2 Try.func6 rfl Try.ntmps6 rfl (Rep.start w) ?_
  repeat' (first | ((with_reducible apply o_rem8E (v := t)); exact rfl; exact rfl; exact ht; omega; exact rfl) | ((with_reducible apply o_conv8); infer_instance; infer_instance; exact rfl; (constructor <;> omega); exact rfl) | ((with_reducible apply c_cond_f); exact rfl; exact decide_eq_false (by omega)) | ((with_reducible apply o_pick_f); exact rfl; exact decide_eq_false (by omega); exact rfl; exact rfl) | ((with_reducible apply g_run); exact rfl; exact decide_eq_false (by omega)) | ((first | ((with_reducible apply o_call_new (f := 10)); exact rfl) | ((with_reducible apply q_call_new (f := 10)); exact rfl; exact rfl; exact sJ_)); exact eV_; exact (fun w hw => hbt w _ hw (by exact aO_)); rintro v NB ⟨am, cm, ai, ci, ap, cp, ds, ys, rfl, hB, oB⟩ <;> (try simp only [List.cons_append, List.nil_append])) | ((first | ((with_reducible apply o_call_new (f := 11)); exact rfl) | ((with_reducible apply q_call_new (f := 11)); exact rfl; exact rfl; exact sJ_)); exact eV_; exact (fun w hw => play_calls31 hcalm w (hB _ _ _ _ (by exact rL_) hw)); rintro v NR ⟨ar, cr, rds, rfl, ⟨hR, hrl⟩, oR⟩ <;> (try simp only [List.cons_append, List.nil_append])) | ((with_reducible first | apply o_move | apply o_assign | apply o_faddr0 | apply o_conv); exact rfl; exact rfl) | ((with_reducible apply gdo_load); first | refine wo_load (h := ?_) | refine wo_loadAll (h := ?_) | refine wo_loadC (h := ?_) | refine wo_ldV (h := ?_) | refine wo_ldF (h := ?_)) | ((with_reducible first | apply o_lss | apply o_leq | apply o_eql | apply o_neq | apply o_extract); exact rfl; exact rfl; exact rfl) | ((with_reducible apply o_alloc); exact rfl; intro _) | ((with_reducible apply o_box); exact rfl; exact rfl; exact rfl; intro _) | ((with_reducible apply gdo_store); first | refine wo_store1 (h := ?_) | refine wo_storeA (h := ?_)) | ((with_reducible apply o_len); infer_instance; exact rfl; exact rfl) | ((with_reducible first | apply c_seq | apply c_block | apply c_region | apply c_nil | apply c_ret | apply c_exit | apply c_skip)) | ((with_reducible first | apply e_then | apply e_then_ret | apply e_then_exit | apply e_in | apply e_in_ret | apply e_in_same)))
  rename_i b2 b5
  apply c_loop (σ := Nat) (Fs := fun k => [(43, .int .i64 k), (42, .int .i64 (Plt.playF p).length), (41, .slice ar (Plt.playF p).length cr), (9, .int .i64 (Plt.rateTo p t k)), (7, .slice ar (Plt.playF p).length cr), (6, .int .i64 t), (5, ptr b5)])
    (Ls := fun k => NR ++ (⟨b5, Ce [.slice am p.ms.length cm, .slice ai p.items.length ci, .slice ap p.passes.length cp] 29, true⟩ :: (NB ++ []))) (I := fun k => k ≤ (Plt.playF p).length ∧ (0 ≤ Plt.rateTo p t k ∧ Plt.rateTo p t k ≤ 200000 * k)) (μ := fun k => (Plt.playF p).length - k) (s0 := 0)
  · exact ⟨Nat.zero_le _, by rw [Plt.rateTo]; omega⟩
  · exact fS_
  · exact hS_
  rintro k ⟨hk, hrb⟩
  by_cases hlt2 : k < (Plt.playF p).length
  · obtain ⟨r, hr⟩ : ∃ r, (Plt.playF p)[k]? = some r := ⟨_, List.getElem?_eq_getElem hlt2⟩
    obtain ⟨y, hy⟩ : ∃ y, p.passes[k]? = some y := ⟨_, List.getElem?_eq_getElem (by omega)⟩
    obtain ⟨hsn, hsb⟩ := run_slices hcalm hy hr
    obtain ⟨j, m, hm, hmid, hmr, -, -, hmsl, hcs⟩ := hv.run hy hr
    have hrate := hmr.2.1
    have hmf : Plt.machF p.ms y.mach = m := by rw [← hmid]; exact Plt.machF_of hv.mnd hm
    have hra : Plt.rateAt p t k = Plt.rateIn t m.rate r.slices := by unfold Plt.rateAt; rw [hr, hy]; dsimp only; rw [hmf]
    have hrt : Plt.rateTo p t (k + 1) = Plt.rateTo p t k + Plt.rateIn t m.rate r.slices := by rw [Plt.rateTo, hra]
    generalize Plt.rateTo p t k = r0 at hrb hrt ⊢
    refine st_know (fun w' hw' => RunsV.at (hR _ _ _ _ (by exact rL_) hw') hr) ?_; rintro ⟨br, offr, x1, k1, x2, k2, x3, n3, k3, x4, n4, k4, x5, k5, x6, k6, x7, n7, k7, rfl, hd, hn3, g0⟩
    refine st_know (fun w' hw' => PlV.passAt (hB _ _ _ _ (by exact rL_) hw') hy) ?_; rintro ⟨bP, oP, p1, l1, p2, l2, p3, l3, rfl, hpd, gp⟩
    refine st_know (fun w' hw' => PlV.machAt (hB _ _ _ _ (by exact rL_) hw') hm) ?_; rintro ⟨bM, oM, m1, l4, m2, l5, rfl, hdm, gm⟩
    repeat' (first | ((with_reducible apply c_cond_t); exact rfl; exact decide_eq_true (by omega)) | ((with_reducible apply o_ldPV (l := [.int .i64 r.pass, .int .i64 r.start, .int .i64 r.fin, .slice x1 r.items.length k1, .slice x2 r.slices.length k2, .slice x3 n3 k3, .slice x4 n4 k4, .slice x5 r.res.over.length k5, .slice x6 r.res.rej.length k6, .slice x7 n7 k7])); infer_instance; infer_instance; exact rfl; (intro w' hw' j' v' hj'; exact SV.cell (hR _ _ _ _ (by exact rL_) hw').1 hd (g0 _ _ hj')); exact rfl; exact rfl) | ((with_reducible first | apply o_move | apply o_assign | apply o_faddr0 | apply o_conv); exact rfl; exact rfl) | ((with_reducible apply gdo_load); first | refine wo_load (h := ?_) | refine wo_loadAll (h := ?_) | refine wo_loadC (h := ?_) | refine wo_ldV (h := ?_) | refine wo_ldF (h := ?_)) | ((with_reducible first | apply o_lss | apply o_leq | apply o_eql | apply o_neq | apply o_extract); exact rfl; exact rfl; exact rfl) | ((with_reducible apply o_alloc); exact rfl; intro _) | ((with_reducible apply gdo_store); first | refine wo_store1 (h := ?_) | refine wo_storeA (h := ?_)) | ((with_reducible apply o_len); infer_instance; exact rfl; exact rfl) | ((with_reducible apply o_idx); infer_instance; infer_instance; exact rfl; exact rfl; (first | exact rfl | omega); exact rfl; (first | assumption | omega | decide)) | ((with_reducible first | apply c_seq | apply c_block | apply c_region | apply c_nil | apply c_ret | apply c_exit | apply c_skip)) | ((with_reducible first | apply e_then | apply e_then_ret | apply e_then_exit | apply e_in | apply e_in_ret | apply e_in_same)))
    rename_i b11
    apply c_loop (σ := Nat) (Fs := fun j => [(51, .int .i64 j), (50, .int .i64 r.slices.length), (49, .slice x2 r.slices.length k2), (9, .int .i64 (r0 + Plt.rateIn t m.rate (r.slices.take j))), (11, ptr b11), (10, .int .i64 k), (43, .int .i64 k), (42, .int .i64 (Plt.playF p).length), (41, .slice (some ⟨br, offr, none⟩) (Plt.playF p).length cr), (7, .slice (some ⟨br, offr, none⟩) (Plt.playF p).length cr), (6, .int .i64 t), (5, ptr b5)])
      (Ls := fun j => ⟨b11, Ce [.int .i64 r.pass, .int .i64 r.start, .int .i64 r.fin, .slice x1 r.items.length k1, .slice x2 r.slices.length k2, .slice x3 n3 k3, .slice x4 n4 k4, .slice x5 r.res.over.length k5, .slice x6 r.res.rej.length k6, .slice x7 n7 k7] 50, true⟩ :: (NR ++ (⟨b5, Ce [.slice (some ⟨bM, oM, none⟩) p.ms.length cm, .slice ai p.items.length ci, .slice (some ⟨bP, oP, none⟩) p.passes.length cp] 29, true⟩ :: (NB ++ [])))) (I := fun j => j ≤ r.slices.length) (μ := fun j => r.slices.length - j) (s0 := 0)
    · exact Nat.zero_le _
    · (try dsimp only); rw [List.take_zero, Plt.rateIn, Int.add_zero]; exact fS_
    · exact hS_
    intro j hj
    have hj : j ≤ r.slices.length := hj
    by_cases hlt3 : j < r.slices.length
    · obtain ⟨⟨sf, su⟩, hs⟩ : ∃ s, r.slices[j]? = some s := ⟨_, List.getElem?_eq_getElem hlt3⟩
      have hs3 := slc3_get (id := r.pass) hs
      have hsn1 := Plt.rateIn_snoc t m.rate (sf, su) (r.slices.take j)
      rw [← take_snoc hs] at hsn1
      dsimp only at hsn1
      have hib := Plt.rateIn_bd (t := t) (rate := m.rate) (by omega) (r.slices.take j)
      have htl : (r.slices.take j).length ≤ 200 := by rw [List.length_take]; omega
      generalize Plt.rateIn t m.rate (r.slices.take j) = ri at hsn1 hib ⊢
      refine st_know (fun w' hw' => SV.ptr ((hR _ _ _ _ (by exact rL_) hw').2.2 k _ _ hd hr).slices hs3) ?_
      rintro ⟨bz, oz, rfl⟩
      by_cases hcc : sf ≤ t ∧ t < su
      · rw [if_pos hcc] at hsn1
        as_aux_lemma =>
          repeat' (first | ((with_reducible apply c_cond_t); exact rfl; exact decide_eq_true (by omega)) | ((with_reducible apply o_pick_t); exact rfl; exact decide_eq_true (by omega); exact rfl; exact rfl) | ((with_reducible apply g_run); exact rfl; exact decide_eq_true (by omega)) | ((with_reducible apply o_ldPV (l := [.int .i64 r.pass, .int .i64 sf, .int .i64 su])); infer_instance; infer_instance; exact rfl; (intro w' hw' j' v' hj'; exact SV.cell ((hR _ _ _ _ (by exact rL_) hw').2.2 k _ _ hd hr).slices hs3 hj'); exact rfl; exact rfl) | ((with_reducible apply q_ldP); infer_instance; exact rfl; exact rfl; exact sJ_; (intro w' hw'; exact SV.cell (hB _ _ _ _ (by exact rL_) hw').ps hpd (gp 1 _ rfl)); exact rfl) | ((first | ((with_reducible apply o_call_pure (f := 17)); exact rfl) | ((with_reducible apply q_call_pure (f := 17)); exact rfl; kernel_rfl; exact rfl; exact sJ_)); exact eV_; exact (fun w hw => machine_is hv.mnd hmid hdm hm w (hB _ _ _ _ (by exact rL_) hw))) | ((with_reducible apply q_field1); exact rfl; exact rfl; exact rfl) | ((with_reducible first | apply o_move | apply o_assign | apply o_faddr0 | apply o_conv); exact rfl; exact rfl) | ((with_reducible apply gdo_load); first | refine wo_load (h := ?_) | refine wo_loadAll (h := ?_) | refine wo_loadC (h := ?_) | refine wo_ldV (h := ?_) | refine wo_ldF (h := ?_)) | ((with_reducible first | apply o_lss | apply o_leq | apply o_eql | apply o_neq | apply o_extract); exact rfl; exact rfl; exact rfl) | ((with_reducible apply o_add); exact rfl; exact rfl; exact rfl; (constructor <;> omega)) | ((with_reducible apply o_alloc); exact rfl; intro _) | ((with_reducible apply gdo_store); first | refine wo_store1 (h := ?_) | refine wo_storeA (h := ?_)) | ((with_reducible apply o_idx); infer_instance; infer_instance; exact rfl; exact rfl; (first | exact rfl | omega); exact rfl; (first | assumption | omega | decide)) | ((with_reducible first | apply c_seq | apply c_block | apply c_region | apply c_nil | apply c_ret | apply c_exit | apply c_skip)) | ((with_reducible first | apply e_then | apply e_then_ret | apply e_then_exit | apply e_in | apply e_in_ret | apply e_in_same)) | ((with_reducible apply c_regionD0 (id := 13) []); kernel_rfl; kernel_rfl) | ((with_reducible apply q_nil); try simp only [ents, List.cons_append, List.nil_append]) | ((with_reducible first | apply q_move | apply q_assign | apply q_faddr0); exact rfl; exact rfl) | ((with_reducible apply q_faddr); exact rfl; exact rfl) | ((with_reducible apply gdq_load); first | refine wq_load (h := ?_) | refine wq_loadAll (h := ?_) | refine wq_loadC (h := ?_) | refine wq_ldV (h := ?_) | refine wq_ldF (h := ?_)) | ((with_reducible apply q_add); exact rfl; exact rfl; exact rfl; (constructor <;> omega)) | ((with_reducible apply q_idx); infer_instance; infer_instance; exact rfl; exact rfl; (first | exact rfl | omega); exact rfl; (first | assumption | omega | decide)))
          refine l_again (j + 1) (show j + 1 ≤ r.slices.length by omega) (show r.slices.length - (j + 1) < r.slices.length - j by omega) ?_ ?_
          · (try dsimp only); rw [hsn1, ← Int.add_assoc]; exact fS_
          · exact hS_
      · rw [if_neg hcc, Int.add_zero] at hsn1
        as_aux_lemma =>
          repeat' (first | ((with_reducible apply c_cond_t); exact rfl; exact decide_eq_true (by omega)) | ((with_reducible apply c_cond_f); exact rfl; exact decide_eq_false (by omega)) | ((with_reducible apply o_pick_t); exact rfl; exact decide_eq_true (by omega); exact rfl; exact rfl) | ((with_reducible apply o_pick_f); exact rfl; exact decide_eq_false (by omega); exact rfl; exact rfl) | ((with_reducible apply g_run); exact rfl; exact decide_eq_true (by omega)) | ((with_reducible apply g_skip); exact rfl; exact decide_eq_false (by omega); exact rfl) | ((with_reducible apply o_ldPV (l := [.int .i64 r.pass, .int .i64 sf, .int .i64 su])); infer_instance; infer_instance; exact rfl; (intro w' hw' j' v' hj'; exact SV.cell ((hR _ _ _ _ (by exact rL_) hw').2.2 k _ _ hd hr).slices hs3 hj'); exact rfl; exact rfl) | ((with_reducible first | apply o_move | apply o_assign | apply o_faddr0 | apply o_conv); exact rfl; exact rfl) | ((with_reducible apply gdo_load); first | refine wo_load (h := ?_) | refine wo_loadAll (h := ?_) | refine wo_loadC (h := ?_) | refine wo_ldV (h := ?_) | refine wo_ldF (h := ?_)) | ((with_reducible first | apply o_lss | apply o_leq | apply o_eql | apply o_neq | apply o_extract); exact rfl; exact rfl; exact rfl) | ((with_reducible apply o_add); exact rfl; exact rfl; exact rfl; (constructor <;> omega)) | ((with_reducible apply o_alloc); exact rfl; intro _) | ((with_reducible apply gdo_store); first | refine wo_store1 (h := ?_) | refine wo_storeA (h := ?_)) | ((with_reducible apply o_idx); infer_instance; infer_instance; exact rfl; exact rfl; (first | exact rfl | omega); exact rfl; (first | assumption | omega | decide)) | ((with_reducible first | apply c_seq | apply c_block | apply c_region | apply c_nil | apply c_ret | apply c_exit | apply c_skip)) | ((with_reducible apply c_cond_f); exact rfl; exact fF_) | ((with_reducible first | apply e_then | apply e_then_ret | apply e_then_exit | apply e_in | apply e_in_ret | apply e_in_same)) | ((with_reducible apply g_split_d); exact rfl; intro hcond; rotate_left; intro hcond; rotate_left))
          all_goals try (exfalso; omega)
          all_goals
            refine l_again (j + 1) (show j + 1 ≤ r.slices.length by omega) (show r.slices.length - (j + 1) < r.slices.length - j by omega) ?_ ?_
            · (try dsimp only); rw [hsn1]; exact fS_
            · exact hS_
    obtain rfl : j = r.slices.length := by omega
    rw [List.take_length, ← hrt]
    have hib := Plt.rateIn_bd (t := t) (rate := m.rate) (by omega) r.slices
    as_aux_lemma =>
      repeat' (first | ((with_reducible apply c_cond_f); exact rfl; exact decide_eq_false (by omega)) | ((with_reducible first | apply o_move | apply o_assign | apply o_faddr0 | apply o_conv); exact rfl; exact rfl) | ((with_reducible first | apply o_lss | apply o_leq | apply o_eql | apply o_neq | apply o_extract); exact rfl; exact rfl; exact rfl) | ((with_reducible apply o_add); exact rfl; exact rfl; exact rfl; (constructor <;> omega)) | ((with_reducible first | apply c_seq | apply c_block | apply c_region | apply c_nil | apply c_ret | apply c_exit | apply c_skip)) | ((with_reducible first | apply e_then | apply e_then_ret | apply e_then_exit | apply e_in | apply e_in_ret | apply e_in_same)))
      refine l_again (k + 1) ⟨by omega, by omega⟩ (by omega) ?_ ?_
      · exact fS_
      · exact hS_
  obtain rfl : k = (Plt.playF p).length := by omega
  rw [hrl0] at hrb ⊢
  generalize Plt.rateTo p t p.passes.length = RT at hrb hml ⊢
  repeat' (first | ((with_reducible apply c_cond_f); exact rfl; exact decide_eq_false (by omega)) | ((with_reducible first | apply o_move | apply o_assign | apply o_faddr0 | apply o_conv); exact rfl; exact rfl) | ((with_reducible apply gdo_load); first | refine wo_load (h := ?_) | refine wo_loadAll (h := ?_) | refine wo_loadC (h := ?_) | refine wo_ldV (h := ?_) | refine wo_ldF (h := ?_)) | ((with_reducible first | apply o_lss | apply o_leq | apply o_eql | apply o_neq | apply o_extract); exact rfl; exact rfl; exact rfl) | ((with_reducible apply o_len); infer_instance; exact rfl; exact rfl) | ((with_reducible first | apply c_seq | apply c_block | apply c_region | apply c_nil | apply c_ret | apply c_exit | apply c_skip)) | ((with_reducible first | apply e_then | apply e_then_ret | apply e_then_exit | apply e_in | apply e_in_ret | apply e_in_same)))
  apply c_loop (σ := Nat) (Fs := fun i => [(81, .int .i64 i), (80, .int .i64 p.items.length), (79, .slice ai p.items.length ci), (14, .int .i64 (((p.items.take i).filter (Plt.movedB p t)).length : Int)), (9, .int .i64 RT), (6, .int .i64 t), (5, ptr b5)])
    (Ls := fun i => NR ++ (⟨b5, Ce [.slice am p.ms.length cm, .slice ai p.items.length ci, .slice ap p.passes.length cp] 29, true⟩ :: (NB ++ []))) (I := fun i => i ≤ p.items.length) (μ := fun i => p.items.length - i) (s0 := 0)
  · exact Nat.zero_le _
  · exact fS_
  · exact hS_
  intro i hi
  have hi : i ≤ p.items.length := hi
  by_cases hlt : i < p.items.length
  · obtain ⟨⟨xi, xs, xb⟩, hx⟩ : ∃ y, p.items[i]? = some y := ⟨_, List.getElem?_eq_getElem hlt⟩
    refine st_know (fun w' hw' => SV.ptr (hB _ _ _ _ (by exact rL_) hw').items hx) ?_
    rintro ⟨bI, oI, rfl⟩
    have hmv := Plt.moved_snoc (t := t) hx
    have hnb := Plt.no_back hv hx (t := t) (by omega)
    have hk1 := congrArg Prod.snd (Plt.where_at hv.ind hx (t := t) (by omega))
    have hk2 := congrArg Prod.snd (Plt.where_at hv.ind hx (t := t + 1) (by omega))
    have hmb : (List.filter (Plt.movedB p t) (List.take i p.items)).length ≤ 40 := Nat.le_trans (List.length_filter_le _ _) (by rw [List.length_take]; omega)
    unfold Plt.movedB at hmv
    dsimp only at hmv hnb hk1 hk2
    obtain ⟨⟨⟨kd, ps, nu⟩, k0⟩, hw1⟩ : ∃ z, Plt.whereF p xi t = z := ⟨_, rfl⟩
    obtain ⟨⟨⟨kd', ps', nu'⟩, k0'⟩, hw2⟩ : ∃ z, Plt.whereF p xi (t + 1) = z := ⟨_, rfl⟩
    rw [hw1] at hmv hnb hk1
    rw [hw2] at hmv hnb hk2
    dsimp only at hmv hnb hk1 hk2
    subst hk1 hk2
    change (((List.filter (Plt.movedB p t) (p.items.take (i + 1))).length : Nat) : Int) = _ at hmv
    by_cases hsame : kd = kd' ∧ ps = ps' ∧ nu = nu'
    · obtain ⟨rfl, rfl, rfl⟩ := hsame
      rw [if_neg (by simp), Int.add_zero] at hmv
      change _ = (((List.filter (Plt.movedB p t) (p.items.take i)).length : Nat) : Int) at hmv
      as_aux_lemma =>
        repeat' (first | ((with_reducible apply c_cond_t); exact rfl; exact decide_eq_true (by omega)) | ((with_reducible apply c_cond_f); exact rfl; exact decide_eq_false (by omega)) | ((with_reducible apply o_pick_t); exact rfl; exact decide_eq_true (by omega); exact rfl; exact rfl) | ((with_reducible apply o_pick_f); exact rfl; exact decide_eq_false (by omega); exact rfl; exact rfl) | ((with_reducible apply g_run); exact rfl; exact decide_eq_true (by omega)) | ((with_reducible apply g_skip); exact rfl; exact decide_eq_false (by omega); exact rfl) | ((with_reducible apply g_run); exact rfl; exact decide_eq_false (by omega)) | ((with_reducible apply o_ldPV (l := [.int .i64 xi, .int .i64 xs, .int .i64 xb])); infer_instance; infer_instance; exact rfl; (intro w' hw' j' v' hj'; exact SV.cell (hB _ _ _ _ (by exact rL_) hw').items hx hj'); exact rfl; exact rfl) | ((first | ((with_reducible apply o_call_pure (f := 13)); exact rfl) | ((with_reducible apply q_call_pure (f := 13)); exact rfl; kernel_rfl; exact rfl; exact sJ_)); exact eV_; exact (fun w hw => where_calls hcalm hw1 w (hB _ _ _ _ (by exact rL_) hw))) | ((first | ((with_reducible apply o_call_pure (f := 13)); exact rfl) | ((with_reducible apply q_call_pure (f := 13)); exact rfl; kernel_rfl; exact rfl; exact sJ_)); exact eV_; exact (fun w hw => where_calls hcalm hw2 w (hB _ _ _ _ (by exact rL_) hw))) | ((with_reducible first | apply o_move | apply o_assign | apply o_faddr0 | apply o_conv); exact rfl; exact rfl) | ((with_reducible apply gdo_load); first | refine wo_load (h := ?_) | refine wo_loadAll (h := ?_) | refine wo_loadC (h := ?_) | refine wo_ldV (h := ?_) | refine wo_ldF (h := ?_)) | ((with_reducible first | apply o_lss | apply o_leq | apply o_eql | apply o_neq | apply o_extract); exact rfl; exact rfl; exact rfl) | ((with_reducible apply gdo_binOp_neq); refine wo_neq_s (h := ?_)) | ((with_reducible apply o_add); exact rfl; exact rfl; exact rfl; (constructor <;> omega)) | ((with_reducible apply o_alloc); exact rfl; intro _) | ((with_reducible apply gdo_store); first | refine wo_store1 (h := ?_) | refine wo_storeA (h := ?_)) | ((with_reducible apply o_idx); infer_instance; infer_instance; exact rfl; exact rfl; (first | exact rfl | omega); exact rfl; (first | assumption | omega | decide)) | ((with_reducible first | apply c_seq | apply c_block | apply c_region | apply c_nil | apply c_ret | apply c_exit | apply c_skip)) | ((with_reducible apply c_cond_f); exact rfl; exact fF_) | ((with_reducible first | apply e_then | apply e_then_ret | apply e_then_exit | apply e_in | apply e_in_ret | apply e_in_same)) | ((with_reducible apply g_split_d); exact rfl; intro hcond; rotate_left; intro hcond; rotate_left))
        all_goals try (exfalso; omega)
        all_goals
          refine l_again (i + 1) (show i + 1 ≤ p.items.length by omega) (show p.items.length - (i + 1) < p.items.length - i by omega) ?_ ?_
          · (try dsimp only); rw [hmv]; exact fS_
          · exact hS_
    · rw [if_pos (by simp; omega)] at hmv
      change _ = (((List.filter (Plt.movedB p t) (p.items.take i)).length : Nat) : Int) + 1 at hmv
      as_aux_lemma =>
        repeat' (first | ((with_reducible apply c_cond_t); exact rfl; exact decide_eq_true (by omega)) | ((with_reducible apply c_cond_f); exact rfl; exact decide_eq_false (by omega)) | ((with_reducible apply o_pick_t); exact rfl; exact decide_eq_true (by omega); exact rfl; exact rfl) | ((with_reducible apply o_pick_f); exact rfl; exact decide_eq_false (by omega); exact rfl; exact rfl) | ((with_reducible apply g_run); exact rfl; exact decide_eq_true (by omega)) | ((with_reducible apply g_skip); exact rfl; exact decide_eq_false (by omega); exact rfl) | ((with_reducible apply g_run); exact rfl; exact decide_eq_false (by omega)) | ((with_reducible apply o_ldPV (l := [.int .i64 xi, .int .i64 xs, .int .i64 xb])); infer_instance; infer_instance; exact rfl; (intro w' hw' j' v' hj'; exact SV.cell (hB _ _ _ _ (by exact rL_) hw').items hx hj'); exact rfl; exact rfl) | ((first | ((with_reducible apply o_call_pure (f := 13)); exact rfl) | ((with_reducible apply q_call_pure (f := 13)); exact rfl; kernel_rfl; exact rfl; exact sJ_)); exact eV_; exact (fun w hw => where_calls hcalm hw1 w (hB _ _ _ _ (by exact rL_) hw))) | ((first | ((with_reducible apply o_call_pure (f := 13)); exact rfl) | ((with_reducible apply q_call_pure (f := 13)); exact rfl; kernel_rfl; exact rfl; exact sJ_)); exact eV_; exact (fun w hw => where_calls hcalm hw2 w (hB _ _ _ _ (by exact rL_) hw))) | ((with_reducible first | apply o_move | apply o_assign | apply o_faddr0 | apply o_conv); exact rfl; exact rfl) | ((with_reducible apply gdo_load); first | refine wo_load (h := ?_) | refine wo_loadAll (h := ?_) | refine wo_loadC (h := ?_) | refine wo_ldV (h := ?_) | refine wo_ldF (h := ?_)) | ((with_reducible first | apply o_lss | apply o_leq | apply o_eql | apply o_neq | apply o_extract); exact rfl; exact rfl; exact rfl) | ((with_reducible apply gdo_binOp_neq); refine wo_neq_s (h := ?_)) | ((with_reducible apply o_add); exact rfl; exact rfl; exact rfl; (constructor <;> omega)) | ((with_reducible apply o_alloc); exact rfl; intro _) | ((with_reducible apply gdo_store); first | refine wo_store1 (h := ?_) | refine wo_storeA (h := ?_)) | ((with_reducible apply o_idx); infer_instance; infer_instance; exact rfl; exact rfl; (first | exact rfl | omega); exact rfl; (first | assumption | omega | decide)) | ((with_reducible first | apply c_seq | apply c_block | apply c_region | apply c_nil | apply c_ret | apply c_exit | apply c_skip)) | ((with_reducible apply c_cond_t); exact rfl; exact tT_) | ((with_reducible apply c_cond_f); exact rfl; exact fF_) | ((with_reducible first | apply e_then | apply e_then_ret | apply e_then_exit | apply e_in | apply e_in_ret | apply e_in_same)) | ((with_reducible apply g_split_d); exact rfl; intro hcond; rotate_left; intro hcond; rotate_left))
        all_goals try (exfalso; omega)
        all_goals
          refine l_again (i + 1) (show i + 1 ≤ p.items.length by omega) (show p.items.length - (i + 1) < p.items.length - i by omega) ?_ ?_
          · (try dsimp only); rw [hmv]; exact fS_
          · exact hS_
  obtain rfl : i = p.items.length := by omega
  rw [List.take_length]
  repeat' (first | ((with_reducible apply c_cond_f); exact rfl; exact decide_eq_false (by omega)) | ((with_reducible apply o_pick_t); exact rfl; exact decide_eq_true (by omega); exact rfl; exact rfl) | ((with_reducible apply g_run); exact rfl; exact decide_eq_true (by omega)) | ((first | ((with_reducible apply o_call_pure (f := 16)); exact rfl) | ((with_reducible apply q_call_pure (f := 16)); exact rfl; kernel_rfl; exact rfl; exact sJ_)); exact eV_; exact (fun w _ => awake_calls w)) | ((with_reducible first | apply o_move | apply o_assign | apply o_faddr0 | apply o_conv); exact rfl; exact rfl) | ((with_reducible first | apply o_lss | apply o_leq | apply o_eql | apply o_neq | apply o_extract); exact rfl; exact rfl; exact rfl) | ((with_reducible first | apply c_seq | apply c_block | apply c_region | apply c_nil | apply c_ret | apply c_exit | apply c_skip)) | ((with_reducible first | apply e_then | apply e_then_ret | apply e_then_exit | apply e_in | apply e_in_ret | apply e_in_same)))
  apply r_body; apply res1 Try.results6; exact rV_; intro w' hw
  exact ⟨rfl, hw.below (show AO _ from by exact aO_)⟩
end Go.Proofs.Ytkhaemjoekfhiaa
namespace Go.Proofs.Ytkhaemjoekfhiaa
open Go Go.ChangeShapes Go.WideShapes Go.ChangeAt Go.RowKit Go.Sx
theorem own : ownKnob Try.prog.godebug = none := by kernel_rfl
theorem laidOut : laidOutB Try.prog = true := by kernel_rfl
theorem cellsB : Try.prog.cellsOf 5 = 1 := by kernel_rfl
section
variable {H : Type} {enc : TypeId × Value → H} {w : World}
set_option maxRecDepth 100000 in
theorem arg_u8 {r : Reach} {b0 : Nat} {v : Value} {d : DataW H} {ps : List MemPlace} (hv : Value.okWide Try.prog w r b0 5 v) (h : DataW.Trod enc Try.prog w 0 (fun _ => true) true 5 v d ps) : ∃ n, v = .int .u8 n ∧ (0 ≤ n ∧ n ≤ 255) := by
  obtain ⟨n, rfl, _, _, hw⟩ := open_int Try.underlying5 hv h
  refine ⟨n, rfl, ?_⟩
  simp only [Lit.wf, Bool.and_eq_true, decide_eq_true_eq] at hw
  exact hw
set_option maxRecDepth 100000 in
theorem rd_byte {cs : List Value} (h : Rd enc Try.prog w 5 cs) : ∃ x : UInt8, cs = encB x ∧ True := by
  obtain ⟨n, rfl, hw⟩ := Rd.int Try.underlying5 h
  simp only [Lit.wf, Bool.and_eq_true, decide_eq_true_eq] at hw
  have h0 : 0 ≤ n := hw.1
  have h1 : n ≤ 255 := hw.2
  refine ⟨UInt8.ofNat n.toNat, ?_, trivial⟩
  unfold encB
  have : (UInt8.ofNat n.toNat).toNat = n.toNat := by
    rw [UInt8.toNat_ofNat']
    omega
  rw [this]
  congr 2
  omega
theorem cellsTSK : Try.prog.cellsOf 24 = 4 := by kernel_rfl
theorem cellsTBYTES : Try.prog.cellsOf 22 = 1 := by kernel_rfl
theorem list4 {α : Type} {l : List α} (h : l.length = 4) : ∃ a b c d, l = [a, b, c, d] := by
  match l, h with
  | [a, b, c, d], _ => exact ⟨a, b, c, d, rfl⟩
set_option maxRecDepth 100000 in
theorem arg_sketch {r : Reach} {b0 : Nat} {v : Value} {d : DataW H} {ps : List MemPlace} (hv : Value.okWide Try.prog w r b0 24 v) (h : DataW.Trod enc Try.prog w 0 (fun _ => true) true 24 v d ps) :
    ∃ v0 v1 v2 v3, ∃ x : Plt.Sk, v = .agg #[v0, v1, v2, v3] ∧ SV w 1 encB v0 x.ms ∧ SV w 1 encB v1 x.shs ∧ SV w 1 encB v2 x.its ∧ SV w 1 encB v3 x.ps := by
  obtain ⟨cs, rfl, _⟩ := okWide_struct Try.underlying24 hv
  obtain ⟨hl, hf⟩ := (Rd.of h).struct Try.underlying24
  rw [cellsTSK] at hl
  simp only [Value.cells] at hl hf
  obtain ⟨a, b, c, e, hab⟩ := list4 hl
  rw [hab] at hf
  obtain ⟨a', xa, ha, wa, _⟩ := rd_slice (good := fun _ => True) Try.underlying22 cellsB (by decide) encB_len (fun cs h => rd_byte h) (hf 0 _ rfl)
  obtain ⟨b', xb, hb, wb, _⟩ := rd_slice (good := fun _ => True) Try.underlying22 cellsB (by decide) encB_len (fun cs h => rd_byte h) (hf 1 _ rfl)
  obtain ⟨c', xc, hc, wc, _⟩ := rd_slice (good := fun _ => True) Try.underlying22 cellsB (by decide) encB_len (fun cs h => rd_byte h) (hf 2 _ rfl)
  obtain ⟨e', xe, he, we, _⟩ := rd_slice (good := fun _ => True) Try.underlying22 cellsB (by decide) encB_len (fun cs h => rd_byte h) (hf 3 _ rfl)
  obtain rfl : a = a' := by simpa [cellsTBYTES] using ha
  obtain rfl : b = b' := by simpa [cellsTBYTES] using hb
  obtain rfl : c = c' := by simpa [cellsTBYTES] using hc
  obtain rfl : e = e' := by simpa [cellsTBYTES] using he
  refine ⟨a, b, c, e, ⟨xa, xb, xc, xe⟩, ?_, wa, wb, wc, we⟩
  rw [show cs = #[a, b, c, e] from by rw [← Array.toArray_toList (xs := cs), hab]]
end
end Go.Proofs.Ytkhaemjoekfhiaa
namespace Go.Proofs.Ytkhaemjoekfhiaa
open Go Go.ChangeShapes Go.WideShapes Go.ChangeAt Go.RowKit Go.Sx
set_option maxRecDepth 100000 in
theorem plantMoves_lifted (os : Os) (started : os.Started) (H : Type) (enc : TypeId × Value → H) :
    ReturnsInHanded {} Try.checked os 6 .any (Rows.plantMovesSpec.pre6 enc Try.prog Try.f6 Rows.plantMovesRow.domain false) (Rows.plantMovesSpec.post enc Try.prog Try.f6 false true false false) := by
  refine returnsInHanded_of_change (C := Try.checked) own started (by kernel_rfl) Try.func6
    (ChangeSpec.witness6 (enc := enc) (C := Try.checked) false ⟨#[], #[.agg #[.slice none 0 0, .slice none 0 0, .slice none 0 0, .slice none 0 0], .int .u8 0], []⟩ 8 (by kernel_rfl) (by kernel_rfl) (by kernel_rfl) (by kernel_rfl)) ?_
  intro W base args ds gs before hval0 hW hcnd _
  have hval : ∀ (j : Nat) t v, Try.f6.params[j]? = some t → args[j]? = some v → Value.okWide Try.prog W .any base t v := hval0
  have hW' := hW
  obtain ⟨p, q, hA0, hV, rfl, hfz, hnd⟩ := hW
  have hA : DataW.TrodAll enc Try.prog W 0 (fun _ => true) true Try.f6.params.toList args.toList ds p := hA0
  rw [Try.params6] at hA hval
  obtain ⟨v0, vs0, d0, ds0, p0, q0, hargs, rfl, rfl, h0, r0⟩ := trodAll_cons hA
  obtain ⟨v1, vs1, d1, ds1, p1, q1, rfl, rfl, rfl, h1, r1⟩ := trodAll_cons r0
  obtain ⟨rfl, rfl, rfl⟩ := trodAll_nil r1
  obtain rfl : args = #[v0, v1] := by cases args; simp_all
  obtain ⟨rfl, rfl⟩ := trodVars_none hV
  have lt0 := Rd.lt h0
  have hv0 := hval 0 24 v0 rfl rfl
  have lt1 := Rd.lt h1
  have hv1 := hval 1 5 v1 rfl rfl
  clear hA0 hval0
  obtain ⟨c0, c1, c2, c3, x, rfl, s0, s1, s2, s3⟩ := arg_sketch hv0 h0
  obtain ⟨n1, rfl, ha1⟩ := arg_u8 hv1 h1
  refine (moves_calls W s0 s1 s2 s3 ha1).mono fun e W' ⟨he, bel⟩ => ?_
  subst he
  exact ⟨_, rfl, _, _, _, [], _, [], hW', trodAll_mk1 (shut_bool Try.underlying4 _), (trodAll_cons_mk (Below.trod laidOut (by kernel_rfl) (of_decide_eq_true (by kernel_rfl)) h0 bel lt0) (trodAll_cons_mk (Below.trod laidOut (by kernel_rfl) (of_decide_eq_true (by kernel_rfl)) h1 bel lt1) trodAll_mk0)), rfl, bel.frame _, fun h => by cases h⟩
theorem plantMoves_proved : Rows.PlantMovesSaid :=
  OpenClaim.holds_of_wide 6 Try.f6 rfl rfl rfl rfl rfl rfl rfl ⟨rfl, rfl, rfl, rfl, rfl⟩ rfl rfl rfl rfl rfl (by kernel_rfl) Try.func6 (by kernel_rfl)
    (of_decide_eq_true (by kernel_rfl)) (by unfold Func.isWrapper; first | (rw [if_pos (by decide +kernel)]; kernel_rfl) | (rw [if_neg (by decide +kernel)]; exact ⟨rfl, rfl⟩))
    (fun os started H enc _ => plantMoves_lifted os started H enc)
end Go.Proofs.Ytkhaemjoekfhiaa
