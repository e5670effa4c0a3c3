/-
  A part of the proofs of this seat: what some of the program's functions compute, shown by walks through their code. Conditions: the hypotheses that each theorem names. (Its blocks of tactics were laid by a small program.)
-/
import Derived.Test.YtgkejkfodigdiaaE5
set_option linter.unusedSimpArgs false
set_option linter.unusedVariables false
namespace Go.Proofs.Ytgkejkfodigdiaa
open Go Go.Sx Go.RowKit
attribute [local irreducible] WL WC WQ WR St Exit.then Exit.inBlock Exit.noGoto bodyPost roundPost beginK YR RG BM Calls B
/-! ## prices, the next step -/
def pmap (bc : Nat) : List (Value × Value) := [(.int .u8 1, .func (.func 51) #[] #[]), (.int .u8 2, .func (.func 52) #[] #[ptr bc]), (.int .u8 3, .func (.func 53) #[] #[ptr bc]), (.int .u8 4, .func (.func 54) #[] #[ptr bc]), (.int .u8 5, .func (.func 55) #[] #[ptr bc])]
theorem pmap_mk (bc : Nat) : MK (.int .u8) (pmap bc) := by constructor <;> simp [pmap, MapKept.IsKey]
theorem prices_calls (c : Edit.Cs) (w : World) : Calls Try.prog 37 #[costV c] w fun e w' => ∃ v N, e = .returned v ∧ (∃ bm bc, v = .map (some bm) ∧ N = [⟨bm, MO (pmap bc), true⟩, ⟨bc, Ce (costC c) 23, true⟩]) ∧ Rep w w' N ∧ ∀ x ∈ N, x.own = true := by
  refine f_enter1 Try.func37 rfl Try.ntmps37 rfl (Rep.start w) ?_
  repeat' (first | ((with_reducible apply o_insNew); infer_instance; infer_instance; exact rfl; exact rfl; exact rfl; ((focus (repeat (first | assumption | exact At.hd | refine At.tl ?_ | (refine At.left ?_; assumption) | refine At.right ?_))) <;> done); (constructor <;> simp [MapKept.IsKey]); exact rfl; (simp); (repeat (first | exact Upd.hd | apply Upd.tl | apply Upd.right))) | ((with_reducible first | apply o_move | apply o_assign); exact rfl; exact rfl) | ((with_reducible apply o_box); exact rfl; exact rfl; exact rfl; intro _) | ((with_reducible apply gdo_makeFunc); refine wo_func (h := ?_)) | ((with_reducible apply o_makeMap0); exact rfl; intro _) | ((with_reducible first | apply c_seq | apply c_block | apply c_region | apply c_nil | apply c_ret | apply c_exit | apply c_unroll | apply c_skip)) | ((with_reducible first | apply e_then | apply e_then_ret | apply e_then_exit | apply e_in | apply e_in_ret | apply e_in_same)))
  apply r_body; apply res1 Try.results37; exact rV_; intro w' hw
  exact ⟨_, _, rfl, ⟨_, _, rfl, rfl⟩, hw, by simp⟩
theorem price_any (c : Edit.Cs) (bc : Nat) {k : Nat} (hk : 1 ≤ k ∧ k ≤ 5) : ∃ f fn caps, TC Try.prog f fn ∧ Try.prog.inits.idxOf? f = none ∧ (pmap bc)[k - 1]? = some (.int .u8 k, .func (.func f) #[] caps) ∧
    ∀ w, w.heap[bc]? = some (Ce (costC c) 23) → Calls Try.prog f (#[] ++ caps) w fun e w' => e = .returned (.int .i64 (Edit.pr c k)) ∧ Below w.heap.size w w' := by
  have : k = 1 ∨ k = 2 ∨ k = 3 ∨ k = 4 ∨ k = 5 := by omega
  rcases this with rfl | rfl | rfl | rfl | rfl
  · refine ⟨51, _, _, inferInstance, by kernel_rfl, rfl, fun w hb => ?_⟩
    show Calls Try.prog 51 #[] w _
    refine f_enter0 Try.func51 rfl Try.ntmps51 rfl (Rep.start w) ?_
    repeat' (first | ((with_reducible apply o_assign); exact rfl; exact rfl) | ((with_reducible first | apply c_seq | apply c_block | apply c_region | apply c_nil | apply c_ret | apply c_exit | apply c_unroll | apply c_skip)) | ((with_reducible first | apply e_then | apply e_then_ret | apply e_then_exit | apply e_in | apply e_in_ret | apply e_in_same)))
    apply r_body; apply res1 Try.results51; exact rV_; intro w' hw
    exact ⟨rfl, hw.below (by simp)⟩
  · refine ⟨52, _, _, inferInstance, by kernel_rfl, rfl, fun w hb => ?_⟩
    show Calls Try.prog 52 #[ptr bc] w _
    refine f_enter1 Try.func52 rfl Try.ntmps52 rfl (Rep.start w) ?_
    repeat' (first | ((with_reducible first | apply o_assign | apply o_faddr0); exact rfl; exact rfl) | ((with_reducible apply gdo_load); first | refine wo_load (h := ?_) | refine wo_loadAll (h := ?_) | refine wo_loadC (h := ?_) | refine wo_ldV (h := ?_) | refine wo_ldF (h := ?_)) | ((with_reducible first | apply c_seq | apply c_block | apply c_region | apply c_nil | apply c_ret | apply c_exit | apply c_unroll | apply c_skip)) | ((with_reducible first | apply e_then | apply e_then_ret | apply e_then_exit | apply e_in | apply e_in_ret | apply e_in_same)))
    apply r_body; apply res1 Try.results52; exact rV_; intro w' hw
    exact ⟨rfl, hw.below (by simp)⟩
  · refine ⟨53, _, _, inferInstance, by kernel_rfl, rfl, fun w hb => ?_⟩
    show Calls Try.prog 53 #[ptr bc] w _
    refine f_enter1 Try.func53 rfl Try.ntmps53 rfl (Rep.start w) ?_
    repeat' (first | ((with_reducible first | apply o_assign | apply o_faddr0); exact rfl; exact rfl) | ((with_reducible apply gdo_load); first | refine wo_load (h := ?_) | refine wo_loadAll (h := ?_) | refine wo_loadC (h := ?_) | refine wo_ldV (h := ?_) | refine wo_ldF (h := ?_)) | ((with_reducible first | apply c_seq | apply c_block | apply c_region | apply c_nil | apply c_ret | apply c_exit | apply c_unroll | apply c_skip)) | ((with_reducible first | apply e_then | apply e_then_ret | apply e_then_exit | apply e_in | apply e_in_ret | apply e_in_same)))
    apply r_body; apply res1 Try.results53; exact rV_; intro w' hw
    exact ⟨rfl, hw.below (by simp)⟩
  · refine ⟨54, _, _, inferInstance, by kernel_rfl, rfl, fun w hb => ?_⟩
    show Calls Try.prog 54 #[ptr bc] w _
    refine f_enter1 Try.func54 rfl Try.ntmps54 rfl (Rep.start w) ?_
    repeat' (first | ((with_reducible first | apply o_assign | apply o_faddr0); exact rfl; exact rfl) | ((with_reducible apply gdo_load); first | refine wo_load (h := ?_) | refine wo_loadAll (h := ?_) | refine wo_loadC (h := ?_) | refine wo_ldV (h := ?_) | refine wo_ldF (h := ?_)) | ((with_reducible first | apply c_seq | apply c_block | apply c_region | apply c_nil | apply c_ret | apply c_exit | apply c_unroll | apply c_skip)) | ((with_reducible first | apply e_then | apply e_then_ret | apply e_then_exit | apply e_in | apply e_in_ret | apply e_in_same)))
    apply r_body; apply res1 Try.results54; exact rV_; intro w' hw
    exact ⟨rfl, hw.below (by simp)⟩
  · refine ⟨55, _, _, inferInstance, by kernel_rfl, rfl, fun w hb => ?_⟩
    show Calls Try.prog 55 #[ptr bc] w _
    refine f_enter1 Try.func55 rfl Try.ntmps55 rfl (Rep.start w) ?_
    repeat' (first | ((with_reducible first | apply o_assign | apply o_faddr0); exact rfl; exact rfl) | ((with_reducible apply gdo_load); first | refine wo_load (h := ?_) | refine wo_loadAll (h := ?_) | refine wo_loadC (h := ?_) | refine wo_ldV (h := ?_) | refine wo_ldF (h := ?_)) | ((with_reducible first | apply c_seq | apply c_block | apply c_region | apply c_nil | apply c_ret | apply c_exit | apply c_unroll | apply c_skip)) | ((with_reducible first | apply e_then | apply e_then_ret | apply e_then_exit | apply e_in | apply e_in_ret | apply e_in_same)))
    apply r_body; apply res1 Try.results55; exact rV_; intro w' hw
    exact ⟨rfl, hw.below (by simp)⟩
def opC (o : Edit.Op) : List Value := [.int .u8 o.kind, .int .u8 o.byte]
theorem opC_len : ∀ x, (opC x).length = 2 := fun _ => rfl
theorem opC_one : ∀ x, (opC x).all (·.oneCell') = true := fun _ => rfl
def opV (o : Edit.Op) : Value := .agg (opC o).toArray
def nxV (o : Edit.Op) (t w : Nat) (b : Bool) : Value := .tuple #[opV o, .int .i64 t, .int .i64 w, .bool b]
/-- What next says of a kind. -/
def NxtOK (k : Nat) (a b : Edit.T) (o : Edit.Op) (t w : Nat) : Prop := Edit.ok k a b = true → o = Edit.opK k b ∧ t = Edit.tk k ∧ w = Edit.wr k
set_option maxHeartbeats 1000000 in
theorem next1 (a b : Edit.T) (w : World) : Calls Try.prog 38 #[.int .u8 1, str a, str b] w fun e w' => e = .returned (nxV ⟨1, 0⟩ 1 1 (Edit.ok 1 a b)) ∧ Below w.heap.size w w' := by
  match a, b with
  | [], b =>
    refine f_enter3 Try.func38 rfl Try.ntmps38 rfl (Rep.start w) ?_
    repeat' (first | ((with_reducible first | apply o_move | apply o_assign); exact rfl; exact rfl) | ((with_reducible first | apply o_eql | apply o_neq); exact rfl; exact rfl; exact rfl) | ((with_reducible apply o_alloc); exact rfl; intro _) | ((with_reducible first | apply c_seq | apply c_block | apply c_region | apply c_nil | apply c_ret | apply c_exit | apply c_unroll | apply c_skip)) | ((with_reducible apply c_cond_t); exact rfl; exact tT_) | ((with_reducible first | apply e_then | apply e_then_ret | apply e_then_exit | apply e_in | apply e_in_ret | apply e_in_same)) | ((with_reducible apply c_regionD0 (id := 3) []); kernel_rfl; kernel_rfl) | ((with_reducible apply q_nil); try simp only [ents, List.cons_append, List.nil_append]) | ((with_reducible first | apply q_move | apply q_assign); exact rfl; exact rfl) | ((with_reducible apply q_pick_f); exact rfl; exact fF_; exact rfl; exact rfl) | ((with_reducible apply gdq_build); first | refine wq_build (h := ?_) | refine wq_buildA (h := ?_)) | ((with_reducible first | apply q_eql_t | apply q_neq_t); infer_instance; exact rfl; exact rfl; exact rfl) | ((with_reducible apply h_skip); exact rfl; exact gG_; exact rfl) | ((with_reducible apply gdq_store); first | refine wq_store1 (h := ?_) | refine wq_storeA (h := ?_) | refine wq_store1E (h := ?_) | refine wq_storeAE (h := ?_)))
    apply r_body; apply res4 Try.results38; exact rV_; exact rV_; exact rV_; exact rV_; intro w' hw
    exact ⟨rfl, hw.below (by simp)⟩
  | x :: a, [] =>
    refine f_enter3 Try.func38 rfl Try.ntmps38 rfl (Rep.start w) ?_
    repeat' (first | ((with_reducible first | apply o_move | apply o_assign); exact rfl; exact rfl) | ((with_reducible first | apply o_eql | apply o_neq); exact rfl; exact rfl; exact rfl) | ((with_reducible apply o_alloc); exact rfl; intro _) | ((with_reducible first | apply c_seq | apply c_block | apply c_region | apply c_nil | apply c_ret | apply c_exit | apply c_unroll | apply c_skip)) | ((with_reducible apply c_cond_t); exact rfl; exact tT_) | ((with_reducible first | apply e_then | apply e_then_ret | apply e_then_exit | apply e_in | apply e_in_ret | apply e_in_same)) | ((with_reducible apply c_regionD0 (id := 3) []); kernel_rfl; kernel_rfl) | ((with_reducible apply q_nil); try simp only [ents, List.cons_append, List.nil_append]) | ((with_reducible first | apply q_move | apply q_assign); exact rfl; exact rfl) | ((with_reducible apply q_pick_t); exact rfl; exact tT_; exact rfl; exact rfl) | ((with_reducible apply q_pick_f); exact rfl; exact fF_; exact rfl; exact rfl) | ((with_reducible apply gdq_build); first | refine wq_build (h := ?_) | refine wq_buildA (h := ?_)) | ((with_reducible first | apply q_eql_t | apply q_neq_t); infer_instance; exact rfl; exact rfl; exact rfl) | ((with_reducible first | apply h_run | apply h_skip_none); exact rfl; exact gG_) | ((with_reducible apply h_skip); exact rfl; exact gG_; exact rfl) | ((with_reducible apply gdq_store); first | refine wq_store1 (h := ?_) | refine wq_storeA (h := ?_) | refine wq_store1E (h := ?_) | refine wq_storeAE (h := ?_)))
    apply r_body; apply res4 Try.results38; exact rV_; exact rV_; exact rV_; exact rV_; intro w' hw
    exact ⟨rfl, hw.below (by simp)⟩
  | x :: a, y :: b =>
    by_cases h : x = y
    · have hn := nat_eq h
      have e : Edit.ok 1 (x :: a) (y :: b) = true := decide_eq_true h
      rw [e]
      refine f_enter3 Try.func38 rfl Try.ntmps38 rfl (Rep.start w) ?_
      repeat' (first | ((with_reducible first | apply o_move | apply o_assign); exact rfl; exact rfl) | ((with_reducible first | apply o_eql | apply o_neq); exact rfl; exact rfl; exact rfl) | ((with_reducible apply o_alloc); exact rfl; intro _) | ((with_reducible first | apply c_seq | apply c_block | apply c_region | apply c_nil | apply c_ret | apply c_exit | apply c_unroll | apply c_skip)) | ((with_reducible apply c_cond_t); exact rfl; exact tT_) | ((with_reducible first | apply e_then | apply e_then_ret | apply e_then_exit | apply e_in | apply e_in_ret | apply e_in_same)) | ((with_reducible apply c_regionD0 (id := 3) []); kernel_rfl; kernel_rfl) | ((with_reducible apply q_nil); try simp only [ents, List.cons_append, List.nil_append]) | ((with_reducible first | apply q_move | apply q_assign); exact rfl; exact rfl) | ((with_reducible first | apply q_eql | apply q_neq); exact rfl; exact rfl; exact rfl) | ((with_reducible apply q_pick_t); exact rfl; exact tT_; exact rfl; exact rfl) | ((with_reducible apply gdq_build); first | refine wq_build (h := ?_) | refine wq_buildA (h := ?_)) | ((with_reducible apply q_index_t); infer_instance; exact rfl; exact rfl; (first | exact Int.cast_ofNat_Int.symm | exact rfl | omega); (first | exact rfl | assumption); exact rfl) | ((with_reducible first | apply q_eql_t | apply q_neq_t); infer_instance; exact rfl; exact rfl; exact rfl) | ((with_reducible first | apply h_run | apply h_skip_none); exact rfl; exact gG_) | ((with_reducible apply gdq_store); first | refine wq_store1 (h := ?_) | refine wq_storeA (h := ?_) | refine wq_store1E (h := ?_) | refine wq_storeAE (h := ?_)))
      apply r_body; apply res4 Try.results38; exact rV_; exact rV_; exact rV_; exact rV_; intro w' hw
      exact ⟨by rw [decide_eq_true hn]; rfl, hw.below (by simp)⟩
    · have hn := nat_ne h
      have e : Edit.ok 1 (x :: a) (y :: b) = false := decide_eq_false h
      rw [e]
      refine f_enter3 Try.func38 rfl Try.ntmps38 rfl (Rep.start w) ?_
      repeat' (first | ((with_reducible first | apply o_move | apply o_assign); exact rfl; exact rfl) | ((with_reducible first | apply o_eql | apply o_neq); exact rfl; exact rfl; exact rfl) | ((with_reducible apply o_alloc); exact rfl; intro _) | ((with_reducible first | apply c_seq | apply c_block | apply c_region | apply c_nil | apply c_ret | apply c_exit | apply c_unroll | apply c_skip)) | ((with_reducible apply c_cond_t); exact rfl; exact tT_) | ((with_reducible first | apply e_then | apply e_then_ret | apply e_then_exit | apply e_in | apply e_in_ret | apply e_in_same)) | ((with_reducible apply c_regionD0 (id := 3) []); kernel_rfl; kernel_rfl) | ((with_reducible apply q_nil); try simp only [ents, List.cons_append, List.nil_append]) | ((with_reducible first | apply q_move | apply q_assign); exact rfl; exact rfl) | ((with_reducible first | apply q_eql | apply q_neq); exact rfl; exact rfl; exact rfl) | ((with_reducible apply q_pick_t); exact rfl; exact tT_; exact rfl; exact rfl) | ((with_reducible apply gdq_build); first | refine wq_build (h := ?_) | refine wq_buildA (h := ?_)) | ((with_reducible apply q_index_t); infer_instance; exact rfl; exact rfl; (first | exact Int.cast_ofNat_Int.symm | exact rfl | omega); (first | exact rfl | assumption); exact rfl) | ((with_reducible first | apply q_eql_t | apply q_neq_t); infer_instance; exact rfl; exact rfl; exact rfl) | ((with_reducible first | apply h_run | apply h_skip_none); exact rfl; exact gG_) | ((with_reducible apply gdq_store); first | refine wq_store1 (h := ?_) | refine wq_storeA (h := ?_) | refine wq_store1E (h := ?_) | refine wq_storeAE (h := ?_)))
      apply r_body; apply res4 Try.results38; exact rV_; exact rV_; exact rV_; exact rV_; intro w' hw
      exact ⟨by rw [decide_eq_false hn]; rfl, hw.below (by simp)⟩
set_option maxHeartbeats 1000000 in
theorem next2_no (a b : Edit.T) (h : a = [] ∨ b = []) (w : World) : Calls Try.prog 38 #[.int .u8 2, str a, str b] w fun e w' => e = .returned (nxV ⟨0, 0⟩ 0 0 false) ∧ Below w.heap.size w w' := by
  match a, b, h with
  | [], b, _ =>
    refine f_enter3 Try.func38 rfl Try.ntmps38 rfl (Rep.start w) ?_
    repeat' (first | ((with_reducible first | apply o_move | apply o_assign); exact rfl; exact rfl) | ((with_reducible first | apply o_eql | apply o_neq); exact rfl; exact rfl; exact rfl) | ((with_reducible apply o_pick_t); exact rfl; exact tT_; exact rfl; exact rfl) | ((with_reducible apply o_alloc); exact rfl; intro _) | ((with_reducible apply gdo_store); first | refine wo_store1 (h := ?_) | refine wo_storeA (h := ?_)) | ((with_reducible apply gdo_build); first | refine wo_build (h := ?_) | refine wo_buildA (h := ?_)) | ((with_reducible first | apply o_eql_t | apply o_neq_t); infer_instance; exact rfl; exact rfl; exact rfl) | ((with_reducible apply g_skip); exact rfl; exact gG_; exact rfl) | ((with_reducible first | apply c_seq | apply c_block | apply c_region | apply c_nil | apply c_ret | apply c_exit | apply c_unroll | apply c_skip)) | ((with_reducible apply c_cond_t); exact rfl; exact tT_) | ((with_reducible apply c_cond_f); exact rfl; exact fF_) | ((with_reducible first | apply e_then | apply e_then_ret | apply e_then_exit | apply e_in | apply e_in_ret | apply e_in_same)))
    apply r_body; apply res4 Try.results38; exact rV_; exact rV_; exact rV_; exact rV_; intro w' hw
    exact ⟨rfl, hw.below (by simp)⟩
  | x :: a, [], _ =>
    refine f_enter3 Try.func38 rfl Try.ntmps38 rfl (Rep.start w) ?_
    repeat' (first | ((with_reducible first | apply o_move | apply o_assign); exact rfl; exact rfl) | ((with_reducible first | apply o_eql | apply o_neq); exact rfl; exact rfl; exact rfl) | ((with_reducible apply o_pick_f); exact rfl; exact fF_; exact rfl; exact rfl) | ((with_reducible apply o_alloc); exact rfl; intro _) | ((with_reducible apply gdo_store); first | refine wo_store1 (h := ?_) | refine wo_storeA (h := ?_)) | ((with_reducible apply gdo_build); first | refine wo_build (h := ?_) | refine wo_buildA (h := ?_)) | ((with_reducible first | apply o_eql_t | apply o_neq_t); infer_instance; exact rfl; exact rfl; exact rfl) | ((with_reducible first | apply g_run | apply g_skip_none); exact rfl; exact gG_) | ((with_reducible first | apply c_seq | apply c_block | apply c_region | apply c_nil | apply c_ret | apply c_exit | apply c_unroll | apply c_skip)) | ((with_reducible apply c_cond_t); exact rfl; exact tT_) | ((with_reducible apply c_cond_f); exact rfl; exact fF_) | ((with_reducible first | apply e_then | apply e_then_ret | apply e_then_exit | apply e_in | apply e_in_ret | apply e_in_same)))
    apply r_body; apply res4 Try.results38; exact rV_; exact rV_; exact rV_; exact rV_; intro w' hw
    exact ⟨rfl, hw.below (by simp)⟩
set_option maxHeartbeats 1000000 in
theorem next2 (x y : UInt8) (a b : Edit.T) (w : World) : Calls Try.prog 38 #[.int .u8 2, str (x :: a), str (y :: b)] w fun e w' => e = .returned (nxV ⟨2, y.toNat⟩ 1 1 (Edit.ok 2 (x :: a) (y :: b))) ∧ Below w.heap.size w w' := by
  by_cases h : x = y
  · have hn := nat_eq h
    have e : Edit.ok 2 (x :: a) (y :: b) = false := decide_eq_false (fun g => g h)
    rw [e]
    refine f_enter3 Try.func38 rfl Try.ntmps38 rfl (Rep.start w) ?_
    repeat' (first | ((with_reducible first | apply o_move | apply o_assign); exact rfl; exact rfl) | ((with_reducible first | apply o_eql | apply o_neq); exact rfl; exact rfl; exact rfl) | ((with_reducible apply o_pick_f); exact rfl; exact fF_; exact rfl; exact rfl) | ((with_reducible apply o_alloc); exact rfl; intro _) | ((with_reducible first | apply o_eql_t | apply o_neq_t); infer_instance; exact rfl; exact rfl; exact rfl) | ((with_reducible first | apply g_run | apply g_skip_none); exact rfl; exact gG_) | ((with_reducible first | apply c_seq | apply c_block | apply c_region | apply c_nil | apply c_ret | apply c_exit | apply c_unroll | apply c_skip)) | ((with_reducible apply c_cond_t); exact rfl; exact tT_) | ((with_reducible apply c_cond_f); exact rfl; exact fF_) | ((with_reducible first | apply e_then | apply e_then_ret | apply e_then_exit | apply e_in | apply e_in_ret | apply e_in_same)) | ((with_reducible apply c_regionD0 (id := 7) []); kernel_rfl; kernel_rfl) | ((with_reducible apply q_nil); try simp only [ents, List.cons_append, List.nil_append]) | ((with_reducible first | apply q_move | apply q_assign); exact rfl; exact rfl) | ((with_reducible first | apply q_eql | apply q_neq); exact rfl; exact rfl; exact rfl) | ((with_reducible apply gdq_build); first | refine wq_build (h := ?_) | refine wq_buildA (h := ?_)) | ((with_reducible apply q_index_t); infer_instance; exact rfl; exact rfl; (first | exact Int.cast_ofNat_Int.symm | exact rfl | omega); (first | exact rfl | assumption); exact rfl) | ((with_reducible apply gdq_store); first | refine wq_store1 (h := ?_) | refine wq_storeA (h := ?_) | refine wq_store1E (h := ?_) | refine wq_storeAE (h := ?_)))
    apply r_body; apply res4 Try.results38; exact rV_; exact rV_; exact rV_; exact rV_; intro w' hw
    exact ⟨by rw [decide_eq_false (fun g => g hn)]; rfl, hw.below (by simp)⟩
  · have hn := nat_ne h
    have e : Edit.ok 2 (x :: a) (y :: b) = true := decide_eq_true h
    rw [e]
    refine f_enter3 Try.func38 rfl Try.ntmps38 rfl (Rep.start w) ?_
    repeat' (first | ((with_reducible first | apply o_move | apply o_assign); exact rfl; exact rfl) | ((with_reducible first | apply o_eql | apply o_neq); exact rfl; exact rfl; exact rfl) | ((with_reducible apply o_pick_f); exact rfl; exact fF_; exact rfl; exact rfl) | ((with_reducible apply o_alloc); exact rfl; intro _) | ((with_reducible first | apply o_eql_t | apply o_neq_t); infer_instance; exact rfl; exact rfl; exact rfl) | ((with_reducible first | apply g_run | apply g_skip_none); exact rfl; exact gG_) | ((with_reducible first | apply c_seq | apply c_block | apply c_region | apply c_nil | apply c_ret | apply c_exit | apply c_unroll | apply c_skip)) | ((with_reducible apply c_cond_t); exact rfl; exact tT_) | ((with_reducible apply c_cond_f); exact rfl; exact fF_) | ((with_reducible first | apply e_then | apply e_then_ret | apply e_then_exit | apply e_in | apply e_in_ret | apply e_in_same)) | ((with_reducible apply c_regionD0 (id := 7) []); kernel_rfl; kernel_rfl) | ((with_reducible apply q_nil); try simp only [ents, List.cons_append, List.nil_append]) | ((with_reducible first | apply q_move | apply q_assign); exact rfl; exact rfl) | ((with_reducible first | apply q_eql | apply q_neq); exact rfl; exact rfl; exact rfl) | ((with_reducible apply gdq_build); first | refine wq_build (h := ?_) | refine wq_buildA (h := ?_)) | ((with_reducible apply q_index_t); infer_instance; exact rfl; exact rfl; (first | exact Int.cast_ofNat_Int.symm | exact rfl | omega); (first | exact rfl | assumption); exact rfl) | ((with_reducible apply gdq_store); first | refine wq_store1 (h := ?_) | refine wq_storeA (h := ?_) | refine wq_store1E (h := ?_) | refine wq_storeAE (h := ?_)))
    apply r_body; apply res4 Try.results38; exact rV_; exact rV_; exact rV_; exact rV_; intro w' hw
    exact ⟨by rw [decide_eq_true hn]; rfl, hw.below (by simp)⟩
theorem next3 (a b : Edit.T) (w : World) : Calls Try.prog 38 #[.int .u8 3, str a, str b] w fun e w' => e = .returned (nxV ⟨3, 0⟩ 2 2 (Edit.ok 3 a b)) ∧ Below w.heap.size w w' := by
  refine f_enter3 Try.func38 rfl Try.ntmps38 rfl (Rep.start w) ?_
  repeat' (first | ((first | ((with_reducible apply o_call_pure (f := 56)); exact rfl) | ((with_reducible apply q_call_pure (f := 56)); exact rfl; kernel_rfl; exact rfl; (focus (repeat (first | (apply SubJ.keep; (decide +kernel)) | apply SubJ.drop | exact SubJ.nil))))); (repeat (first | exact Evs.nil | apply Evs.cons rfl)); exact (fun w _ => swapped_calls a b w)) | ((with_reducible first | apply o_move | apply o_assign); exact rfl; exact rfl) | ((with_reducible first | apply o_eql | apply o_neq); exact rfl; exact rfl; exact rfl) | ((with_reducible apply o_alloc); exact rfl; intro _) | ((with_reducible apply gdo_store); first | refine wo_store1 (h := ?_) | refine wo_storeA (h := ?_)) | ((with_reducible apply gdo_build); first | refine wo_build (h := ?_) | refine wo_buildA (h := ?_)) | ((with_reducible first | apply c_seq | apply c_block | apply c_region | apply c_nil | apply c_ret | apply c_exit | apply c_unroll | apply c_skip)) | ((with_reducible apply c_cond_t); exact rfl; exact tT_) | ((with_reducible apply c_cond_f); exact rfl; exact fF_) | ((with_reducible first | apply e_then | apply e_then_ret | apply e_then_exit | apply e_in | apply e_in_ret | apply e_in_same)))
  apply r_body; apply res4 Try.results38; exact rV_; exact rV_; exact rV_; exact rV_; intro w' hw
  exact ⟨rfl, hw.below (by simp)⟩
theorem next4 (a b : Edit.T) (w : World) : Calls Try.prog 38 #[.int .u8 4, str a, str b] w fun e w' => e = .returned (nxV ⟨4, 0⟩ 1 0 (Edit.ok 4 a b)) ∧ Below w.heap.size w w' := by
  cases a with
  | nil =>
    refine f_enter3 Try.func38 rfl Try.ntmps38 rfl (Rep.start w) ?_
    repeat' (first | ((with_reducible first | apply o_move | apply o_assign); exact rfl; exact rfl) | ((with_reducible first | apply o_eql | apply o_neq); exact rfl; exact rfl; exact rfl) | ((with_reducible apply o_alloc); exact rfl; intro _) | ((with_reducible apply gdo_store); first | refine wo_store1 (h := ?_) | refine wo_storeA (h := ?_)) | ((with_reducible apply gdo_build); first | refine wo_build (h := ?_) | refine wo_buildA (h := ?_)) | ((with_reducible first | apply o_eql_t | apply o_neq_t); infer_instance; exact rfl; exact rfl; exact rfl) | ((with_reducible first | apply c_seq | apply c_block | apply c_region | apply c_nil | apply c_ret | apply c_exit | apply c_unroll | apply c_skip)) | ((with_reducible apply c_cond_t); exact rfl; exact tT_) | ((with_reducible apply c_cond_f); exact rfl; exact fF_) | ((with_reducible first | apply e_then | apply e_then_ret | apply e_then_exit | apply e_in | apply e_in_ret | apply e_in_same)))
    apply r_body; apply res4 Try.results38; exact rV_; exact rV_; exact rV_; exact rV_; intro w' hw
    exact ⟨rfl, hw.below (by simp)⟩
  | cons x a =>
    refine f_enter3 Try.func38 rfl Try.ntmps38 rfl (Rep.start w) ?_
    repeat' (first | ((with_reducible first | apply o_move | apply o_assign); exact rfl; exact rfl) | ((with_reducible first | apply o_eql | apply o_neq); exact rfl; exact rfl; exact rfl) | ((with_reducible apply o_alloc); exact rfl; intro _) | ((with_reducible apply gdo_store); first | refine wo_store1 (h := ?_) | refine wo_storeA (h := ?_)) | ((with_reducible apply gdo_build); first | refine wo_build (h := ?_) | refine wo_buildA (h := ?_)) | ((with_reducible first | apply o_eql_t | apply o_neq_t); infer_instance; exact rfl; exact rfl; exact rfl) | ((with_reducible first | apply c_seq | apply c_block | apply c_region | apply c_nil | apply c_ret | apply c_exit | apply c_unroll | apply c_skip)) | ((with_reducible apply c_cond_t); exact rfl; exact tT_) | ((with_reducible apply c_cond_f); exact rfl; exact fF_) | ((with_reducible first | apply e_then | apply e_then_ret | apply e_then_exit | apply e_in | apply e_in_ret | apply e_in_same)))
    apply r_body; apply res4 Try.results38; exact rV_; exact rV_; exact rV_; exact rV_; intro w' hw
    exact ⟨rfl, hw.below (by simp)⟩
theorem next5_no (a : Edit.T) (w : World) : Calls Try.prog 38 #[.int .u8 5, str a, str []] w fun e w' => e = .returned (nxV ⟨0, 0⟩ 0 0 false) ∧ Below w.heap.size w w' := by
  refine f_enter3 Try.func38 rfl Try.ntmps38 rfl (Rep.start w) ?_
  repeat' (first | ((with_reducible first | apply o_move | apply o_assign); exact rfl; exact rfl) | ((with_reducible first | apply o_eql | apply o_neq); exact rfl; exact rfl; exact rfl) | ((with_reducible apply o_alloc); exact rfl; intro _) | ((with_reducible apply gdo_store); first | refine wo_store1 (h := ?_) | refine wo_storeA (h := ?_)) | ((with_reducible apply gdo_build); first | refine wo_build (h := ?_) | refine wo_buildA (h := ?_)) | ((with_reducible first | apply o_eql_t | apply o_neq_t); infer_instance; exact rfl; exact rfl; exact rfl) | ((with_reducible first | apply c_seq | apply c_block | apply c_region | apply c_nil | apply c_ret | apply c_exit | apply c_unroll | apply c_skip)) | ((with_reducible apply c_cond_t); exact rfl; exact tT_) | ((with_reducible apply c_cond_f); exact rfl; exact fF_) | ((with_reducible first | apply e_then | apply e_then_ret | apply e_then_exit | apply e_in | apply e_in_ret | apply e_in_same)))
  apply r_body; apply res4 Try.results38; exact rV_; exact rV_; exact rV_; exact rV_; intro w' hw
  exact ⟨rfl, hw.below (by simp)⟩
theorem next5 (a : Edit.T) (y : UInt8) (b : Edit.T) (w : World) : Calls Try.prog 38 #[.int .u8 5, str a, str (y :: b)] w fun e w' => e = .returned (nxV ⟨5, y.toNat⟩ 0 1 true) ∧ Below w.heap.size w w' := by
  refine f_enter3 Try.func38 rfl Try.ntmps38 rfl (Rep.start w) ?_
  repeat' (first | ((with_reducible first | apply o_move | apply o_assign); exact rfl; exact rfl) | ((with_reducible first | apply o_eql | apply o_neq); exact rfl; exact rfl; exact rfl) | ((with_reducible apply o_alloc); exact rfl; intro _) | ((with_reducible apply gdo_store); first | refine wo_store1 (h := ?_) | refine wo_storeA (h := ?_)) | ((with_reducible apply gdo_build); first | refine wo_build (h := ?_) | refine wo_buildA (h := ?_)) | ((with_reducible apply o_index_t); infer_instance; exact rfl; exact rfl; (first | exact Int.cast_ofNat_Int.symm | exact rfl | omega); (first | exact rfl | assumption); exact rfl) | ((with_reducible first | apply o_eql_t | apply o_neq_t); infer_instance; exact rfl; exact rfl; exact rfl) | ((with_reducible first | apply c_seq | apply c_block | apply c_region | apply c_nil | apply c_ret | apply c_exit | apply c_unroll | apply c_skip)) | ((with_reducible apply c_cond_t); exact rfl; exact tT_) | ((with_reducible apply c_cond_f); exact rfl; exact fF_) | ((with_reducible first | apply e_then | apply e_then_ret | apply e_then_exit | apply e_in | apply e_in_ret | apply e_in_same)))
  apply r_body; apply res4 Try.results38; exact rV_; exact rV_; exact rV_; exact rV_; intro w' hw
  exact ⟨rfl, hw.below (by simp)⟩
/-- The step of a kind, if it fits. -/
theorem next_any {k : Nat} (hk : 1 ≤ k ∧ k ≤ 5) (a b : Edit.T) : ∃ o t u, (Edit.ok k a b = true → o = Edit.opK k b ∧ t = Edit.tk k ∧ u = Edit.wr k) ∧ ∀ w, Calls Try.prog 38 #[.int .u8 k, str a, str b] w fun e w' => e = .returned (nxV o t u (Edit.ok k a b)) ∧ Below w.heap.size w w' := by
  have : k = 1 ∨ k = 2 ∨ k = 3 ∨ k = 4 ∨ k = 5 := by omega
  rcases this with rfl | rfl | rfl | rfl | rfl
  · exact ⟨_, _, _, fun _ => ⟨rfl, rfl, rfl⟩, next1 a b⟩
  · match a, b with
    | [], b => exact ⟨_, _, _, fun h => (by cases h), fun w => next2_no [] b (.inl rfl) w⟩
    | x :: a, [] => exact ⟨_, _, _, fun h => (by cases h), fun w => next2_no (x :: a) [] (.inr rfl) w⟩
    | x :: a, y :: b => exact ⟨_, _, _, fun _ => ⟨rfl, rfl, rfl⟩, next2 x y a b⟩
  · exact ⟨_, _, _, fun _ => ⟨rfl, rfl, rfl⟩, next3 a b⟩
  · exact ⟨_, _, _, fun _ => ⟨rfl, rfl, rfl⟩, next4 a b⟩
  · match a, b with
    | a, [] => exact ⟨⟨0, 0⟩, 0, 0, fun h => (by cases a <;> cases h), fun w => by
        have e : Edit.ok 5 a [] = false := by cases a <;> rfl
        rw [e]; exact next5_no a w⟩
    | a, y :: b => exact ⟨⟨5, y.toNat⟩, 0, 1, fun _ => ⟨rfl, rfl, rfl⟩, fun w => by
        have e : Edit.ok 5 a (y :: b) = true := by cases a <;> rfl
        rw [e]; exact next5 a y b w⟩
end Go.Proofs.Ytgkejkfodigdiaa
