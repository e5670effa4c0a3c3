/-
  A part of the proofs of this seat: what some of the program's functions compute, shown by walks through their code. Conditions: the hypotheses that each theorem names. (Its blocks of tactics were laid by a small program.)
-/
import Derived.Test.YtgkejkfodigdiaaE7
import Derived.Laws.IdiomStrings
import Derived.Laws.BytesArg
set_option linter.unusedSimpArgs false
set_option linter.unusedVariables false
namespace Go.Proofs.Ytgkejkfodigdiaa
open Go Go.Sx Go.RowKit
attribute [local irreducible] WL WC WQ WR St Exit.then Exit.inBlock Exit.noGoto bodyPost roundPost beginK YR RG BM Calls B
/-! ## Apply's steps -/
/-- One cell for a byte. -/
def encB (x : UInt8) : List Value := [.int .u8 (x.toNat : Int)]
theorem encB_len : ∀ x, (encB x).length = 1 := fun _ => rfl
theorem encB_one : ∀ x, (encB x).all (·.oneCell') = true := fun _ => rfl
section
variable {r : Option Nat} {P : Program} {n : Nat} {D : List Deferred} {w0 : World} {F : List (Nat × Value)} {L L0 : List Ent} {Q : Exit → Act → World → Prop} {ops : Array Oper}
variable {d : Tmp} {ty : TypeId} {pos : String} {af : Array Edge} {rest : List Oper}
theorem o_str_b {s e t : TypeId} {x : Operand} {v : Value} {l : List UInt8} (hU : TU P s (.slice e)) (hE : TU P e (.int .u8)) (hT : TU P t .string) (hx : ev F x = some v) (hsv : ∀ w, Rep w0 w L → SV w 1 encB v l) (hd : Nat.ble (d + 1) n = true)
    (h : St n D w0 ((d, str l) :: F) L (WL r P ops Q rest)) : St n D w0 F L (WL r P ops Q (⟨some d, .convert s t x, ty, pos, af, none⟩ :: rest)) :=
  o_val rfl hd (fun a w ha hw => by
    obtain ⟨a0, cap, rfl, hc, hop⟩ := (hsv w hw).open
    have hrun : (convert s t (.slice a0 l.length cap)).run P w = .ok (str l) w := by
      cases a0 with
      | none =>
        have hl : l = [] := by
          cases l with
          | nil => rfl
          | cons y l => obtain ⟨b, off, c, e', fz, h1, _⟩ := hop (by simp); cases h1
        subst hl
        have := run_convert_bytes_nil (P := P) w s e hU.h hE.h 0 cap t hT.h
        exact this
      | some p =>
        refine run_convert_bytes_back w s t e p cap l hU.h hE.h hT.h fun j hj => ?_
        obtain ⟨b, off, c, e', fz, h1, h2, h3⟩ := hop (by omega)
        cases h1
        have := h3.one (List.getElem?_eq_getElem hj) rfl
        rw [Nat.mul_one] at this
        rw [add_none]
        simp [World.cell?, h2, this]
    simp [execOp, ha.eval hx, hrun]) h
end
/-- What a step does to what is left of the text, and what it writes. -/
def stepA (k : Nat) (y : UInt8) : Edit.T → Option (Edit.T × Edit.T)
  | [] => if k = 5 then some ([], [y]) else none
  | x :: s =>
    if k = 1 then (if y = 0 then some (s, [x]) else none)
    else if k = 2 then (if x ≠ y then some (s, [y]) else none)
    else if k = 3 then (match s with
      | [] => none
      | x' :: s => if x ≠ x' ∧ y = 0 then some (s, [x', x]) else none)
    else if k = 4 then (if y = 0 then some (s, []) else none)
    else if k = 5 then some (x :: s, [y]) else none
theorem y_zero {y : UInt8} (h : y = 0) : (y.toNat : Int) = 0 := by rw [h]; rfl
theorem y_nz {y : UInt8} (h : ¬ y = 0) : ¬ (y.toNat : Int) = 0 := fun e => h (UInt8.toNat_inj.1 (by simpa using e))
theorem y_nz' {y : UInt8} (h : ¬ y = 0) : ¬ y.toNat = 0 := fun e => h (UInt8.toNat_inj.1 (by simpa using e))
/-- A step's end. -/
def ApPost (w0 : World) (L0 N : List Ent) (bs bo : Nat) (f1 f2 : Bool) (s out : Edit.T) (a : Option Addr) (cap : Nat) (r : Option (Edit.T × Edit.T)) (e : Ending) (w' : World) : Prop :=
  match r with
  | some (s', ad) => e = .returned (.bool true) ∧ ∃ a' cap' N', OW 5 1 encB (.slice a' (out ++ ad).length cap') (out ++ ad) N' ∧ Rep w0 w' (⟨bs, Ce [str s'] 9, f1⟩ :: ⟨bo, Ce [.slice a' (out ++ ad).length cap'] 46, f2⟩ :: (N' ++ L0))
  | none => e = .returned (.bool false) ∧ Rep w0 w' (⟨bs, Ce [str s] 9, f1⟩ :: ⟨bo, Ce [.slice a out.length cap] 46, f2⟩ :: (N ++ L0))
section
variable {w0 w : World} {L0 N : List Ent} {bs bo cap : Nat} {f1 f2 : Bool} {s out : Edit.T} {a : Option Addr} {y : UInt8}
theorem ap1 (hw0 : Rep w0 w (⟨bs, Ce [str s] 9, f1⟩ :: ⟨bo, Ce [.slice a out.length cap] 46, f2⟩ :: (N ++ L0))) (hO : OW 5 1 encB (.slice a out.length cap) out N) (hn : out.length ≤ 1000) :
    Calls Try.prog 42 #[.int .u8 (y.toNat : Int), ptr bs, ptr bo] w (ApPost w0 L0 N bs bo f1 f2 s out a cap (stepA 1 y s)) := by
  have hN := hO.own
  cases s with
  | nil =>
    refine f_enterF3 Try.func42 rfl Try.ntmps42 rfl (hw0) ?_
    repeat' (first | ((with_reducible first | apply o_move | apply o_assign); exact rfl; exact rfl) | ((with_reducible apply gdo_load); first | refine wo_load (h := ?_) | refine wo_loadAll (h := ?_) | refine wo_loadC (h := ?_) | refine wo_ldV (h := ?_) | refine wo_ldF (h := ?_)) | ((with_reducible apply o_pick_f); exact rfl; exact fF_; exact rfl; exact rfl) | ((with_reducible first | apply o_eql_t | apply o_neq_t); infer_instance; exact rfl; exact rfl; exact rfl) | ((with_reducible apply g_skip); exact rfl; exact gG_; exact rfl) | ((with_reducible first | apply c_seq | apply c_block | apply c_region | apply c_nil | apply c_ret | apply c_exit | apply c_unroll | apply c_skip)) | ((with_reducible apply c_cond_f); exact rfl; exact fF_) | ((with_reducible first | apply e_then | apply e_then_ret | apply e_then_exit | apply e_in | apply e_in_ret | apply e_in_same)))
    apply r_body; apply res1 Try.results42; exact rV_; intro w' hw
    exact ⟨rfl, hw⟩
  | cons x s =>
    have lx : (x :: s).length = s.length + 1 := rfl
    by_cases hy : y = 0
    · have hy' := y_zero hy
      have e : stepA 1 y (x :: s) = some (s, [x]) := by simp [stepA, hy]
      rw [e]
      refine f_enterF3 Try.func42 rfl Try.ntmps42 rfl (hw0) ?_
      repeat' (first | ((with_reducible apply c_regionA0 (id := 3) (specA 4 N hN [(4, appφ 5 1 encB (out ++ [x]))])); kernel_rfl; kernel_rfl; exact rfl; (repeat (first | exact RemL.hd | exact RemL.all | exact RemL.nil | apply RemL.tl | apply RemL.right))) | ((with_reducible apply q_appA (enc := encB) (xs := out) (ys := [x]) (H := N)); infer_instance; infer_instance; infer_instance; exact rfl; exact encB_len; exact encB_one; exact rfl; exact rfl; exact rfl; exact rfl; (focus (repeat (first | (apply SubJ.keep; (decide +kernel)) | apply SubJ.drop | exact SubJ.nil))); exact rfl; exact hO; (exact fun w hw => SV.lit [x] encB_len hw (by ((focus (repeat (first | assumption | exact At.hd | refine At.tl ?_ | (refine At.left ?_; assumption) | refine At.right ?_))) <;> done)) rfl rfl (by decide)); (constructor <;> (try simp only [List.length_cons, List.length_nil]) <;> omega); intro _ _ _ _ _ _ _) | ((with_reducible first | apply o_move | apply o_assign); exact rfl; exact rfl) | ((with_reducible apply gdo_load); first | refine wo_load (h := ?_) | refine wo_loadAll (h := ?_) | refine wo_loadC (h := ?_) | refine wo_ldV (h := ?_) | refine wo_ldF (h := ?_)) | ((with_reducible first | apply o_eql | apply o_neq); exact rfl; exact rfl; exact rfl) | ((with_reducible apply o_pick_t); exact rfl; exact tT_; exact rfl; exact rfl) | ((with_reducible first | apply o_eql_t | apply o_neq_t); infer_instance; exact rfl; exact rfl; exact rfl) | ((with_reducible first | apply g_run | apply g_skip_none); exact rfl; exact gG_) | ((with_reducible first | apply c_seq | apply c_block | apply c_region | apply c_nil | apply c_ret | apply c_exit | apply c_unroll | apply c_skip)) | ((with_reducible apply c_cond_t); exact rfl; exact tT_) | ((with_reducible first | apply e_then | apply e_then_ret | apply e_then_exit | apply e_in | apply e_in_ret | apply e_in_same)) | ((with_reducible apply q_nil); try simp only [ents, List.cons_append, List.nil_append]) | ((with_reducible apply gdq_load); first | refine wq_load (h := ?_) | refine wq_loadAll (h := ?_) | refine wq_loadC (h := ?_) | refine wq_ldV (h := ?_) | refine wq_ldF (h := ?_)) | ((with_reducible first | apply q_drop_t | apply q_take_t); infer_instance; exact rfl; exact rfl; (first | exact Int.cast_ofNat_Int.symm | exact rfl | omega); (first | assumption | omega | (simp only [List.length_drop, List.length_take, List.length_append]; omega)); exact rfl) | ((with_reducible apply q_index_t); infer_instance; exact rfl; exact rfl; (first | exact Int.cast_ofNat_Int.symm | exact rfl | omega); (first | exact rfl | assumption); exact rfl) | ((with_reducible apply gdq_store); first | refine wq_store1 (h := ?_) | refine wq_storeA (h := ?_) | refine wq_store1E (h := ?_) | refine wq_storeAE (h := ?_)) | ((with_reducible apply gdq_buildSlice); refine wq_buildSlice (h := fun _ => ?_)))
      rename_i a' cap' N' R' hO' hN' hR'
      apply r_body; apply res1 Try.results42; exact rV_; intro w' hw
      exact ⟨by first | rfl | rw [decide_eq_true hy'], a', cap', N', hO', hw.sub (by simp only [List.append_assoc]; ((try dsimp only); repeat (first | exact HSub.nil rfl | (apply HSub.take; (repeat (first | exact Rem.hd | apply Rem.tl | apply Rem.right))) | exact HSub.same | apply HSub.drop | (apply HSub.takeL; (focus ((repeat (first | exact RemL.hd | exact RemL.all | exact RemL.nil | apply RemL.tl | apply RemL.right))))) | (apply HSub.dropL; assumption) | (apply HSub.takeA; (focus ((repeat (first | exact RemL.hd | exact RemL.all | exact RemL.nil | apply RemL.tl | apply RemL.right)))); ((focus (repeat (first | exact AO.nil | apply AO.cons | (apply AO.app; assumption)))) <;> done)) | (apply HSub.nilA; ((focus (repeat (first | exact AO.nil | apply AO.cons | (apply AO.app; assumption)))) <;> done)))))⟩
    · have hy' := y_nz hy
      have e : stepA 1 y (x :: s) = none := by simp [stepA, hy]
      rw [e]
      refine f_enterF3 Try.func42 rfl Try.ntmps42 rfl (hw0) ?_
      repeat' (first | ((with_reducible first | apply o_move | apply o_assign); exact rfl; exact rfl) | ((with_reducible apply gdo_load); first | refine wo_load (h := ?_) | refine wo_loadAll (h := ?_) | refine wo_loadC (h := ?_) | refine wo_ldV (h := ?_) | refine wo_ldF (h := ?_)) | ((with_reducible first | apply o_eql | apply o_neq); exact rfl; exact rfl; exact rfl) | ((with_reducible apply o_pick_t); exact rfl; exact tT_; exact rfl; exact rfl) | ((with_reducible first | apply o_eql_t | apply o_neq_t); infer_instance; exact rfl; exact rfl; exact rfl) | ((with_reducible first | apply g_run | apply g_skip_none); exact rfl; exact gG_) | ((with_reducible first | apply c_seq | apply c_block | apply c_region | apply c_nil | apply c_ret | apply c_exit | apply c_unroll | apply c_skip)) | ((with_reducible apply c_cond_f); exact rfl; exact fF_) | ((with_reducible first | apply e_then | apply e_then_ret | apply e_then_exit | apply e_in | apply e_in_ret | apply e_in_same)))
      apply r_body; apply res1 Try.results42; exact rV_; intro w' hw
      exact ⟨by rw [decide_eq_false hy'], hw⟩
theorem ap2 (hw0 : Rep w0 w (⟨bs, Ce [str s] 9, f1⟩ :: ⟨bo, Ce [.slice a out.length cap] 46, f2⟩ :: (N ++ L0))) (hO : OW 5 1 encB (.slice a out.length cap) out N) (hn : out.length ≤ 1000) :
    Calls Try.prog 43 #[.int .u8 (y.toNat : Int), ptr bs, ptr bo] w (ApPost w0 L0 N bs bo f1 f2 s out a cap (stepA 2 y s)) := by
  have hN := hO.own
  cases s with
  | nil =>
    refine f_enterF3 Try.func43 rfl Try.ntmps43 rfl (hw0) ?_
    repeat' (first | ((with_reducible first | apply o_move | apply o_assign); exact rfl; exact rfl) | ((with_reducible apply gdo_load); first | refine wo_load (h := ?_) | refine wo_loadAll (h := ?_) | refine wo_loadC (h := ?_) | refine wo_ldV (h := ?_) | refine wo_ldF (h := ?_)) | ((with_reducible apply o_pick_f); exact rfl; exact fF_; exact rfl; exact rfl) | ((with_reducible apply o_neq_t); infer_instance; exact rfl; exact rfl; exact rfl) | ((with_reducible apply g_skip); exact rfl; exact gG_; exact rfl) | ((with_reducible first | apply c_seq | apply c_block | apply c_region | apply c_nil | apply c_ret | apply c_exit | apply c_unroll | apply c_skip)) | ((with_reducible apply c_cond_f); exact rfl; exact fF_) | ((with_reducible first | apply e_then | apply e_then_ret | apply e_then_exit | apply e_in | apply e_in_ret | apply e_in_same)))
    apply r_body; apply res1 Try.results43; exact rV_; intro w' hw
    exact ⟨rfl, hw⟩
  | cons x s =>
    have lx : (x :: s).length = s.length + 1 := rfl
    by_cases hy : x = y
    · have hy' := nat_eq hy
      have e : stepA 2 y (x :: s) = none := by simp [stepA, hy]
      rw [e]
      refine f_enterF3 Try.func43 rfl Try.ntmps43 rfl (hw0) ?_
      repeat' (first | ((with_reducible first | apply o_move | apply o_assign); exact rfl; exact rfl) | ((with_reducible apply gdo_load); first | refine wo_load (h := ?_) | refine wo_loadAll (h := ?_) | refine wo_loadC (h := ?_) | refine wo_ldV (h := ?_) | refine wo_ldF (h := ?_)) | ((with_reducible apply o_neq); exact rfl; exact rfl; exact rfl) | ((with_reducible apply o_pick_t); exact rfl; exact tT_; exact rfl; exact rfl) | ((with_reducible apply o_index_t); infer_instance; exact rfl; exact rfl; (first | exact Int.cast_ofNat_Int.symm | exact rfl | omega); (first | exact rfl | assumption); exact rfl) | ((with_reducible apply o_neq_t); infer_instance; exact rfl; exact rfl; exact rfl) | ((with_reducible first | apply g_run | apply g_skip_none); exact rfl; exact gG_) | ((with_reducible first | apply c_seq | apply c_block | apply c_region | apply c_nil | apply c_ret | apply c_exit | apply c_unroll | apply c_skip)) | ((with_reducible apply c_cond_f); exact rfl; exact fF_) | ((with_reducible first | apply e_then | apply e_then_ret | apply e_then_exit | apply e_in | apply e_in_ret | apply e_in_same)))
      apply r_body; apply res1 Try.results43; exact rV_; intro w' hw
      exact ⟨by first | rfl | rw [decide_eq_false (fun h => h hy')], hw⟩
    · have hy' := nat_ne hy
      have e : stepA 2 y (x :: s) = some (s, [y]) := by simp [stepA, hy]
      rw [e]
      refine f_enterF3 Try.func43 rfl Try.ntmps43 rfl (hw0) ?_
      repeat' (first | ((with_reducible apply c_regionA0 (id := 3) (specA 3 N hN [(3, appφ 5 1 encB (out ++ [y]))])); kernel_rfl; kernel_rfl; exact rfl; (repeat (first | exact RemL.hd | exact RemL.all | exact RemL.nil | apply RemL.tl | apply RemL.right))) | ((with_reducible apply q_appA (enc := encB) (xs := out) (ys := [y]) (H := N)); infer_instance; infer_instance; infer_instance; exact rfl; exact encB_len; exact encB_one; exact rfl; exact rfl; exact rfl; exact rfl; (focus (repeat (first | (apply SubJ.keep; (decide +kernel)) | apply SubJ.drop | exact SubJ.nil))); exact rfl; exact hO; (exact fun w hw => SV.lit [y] encB_len hw (by ((focus (repeat (first | assumption | exact At.hd | refine At.tl ?_ | (refine At.left ?_; assumption) | refine At.right ?_))) <;> done)) rfl rfl (by decide)); (constructor <;> (try simp only [List.length_cons, List.length_nil]) <;> omega); intro _ _ _ _ _ _ _) | ((with_reducible first | apply o_move | apply o_assign); exact rfl; exact rfl) | ((with_reducible apply gdo_load); first | refine wo_load (h := ?_) | refine wo_loadAll (h := ?_) | refine wo_loadC (h := ?_) | refine wo_ldV (h := ?_) | refine wo_ldF (h := ?_)) | ((with_reducible apply o_neq); exact rfl; exact rfl; exact rfl) | ((with_reducible apply o_pick_t); exact rfl; exact tT_; exact rfl; exact rfl) | ((with_reducible apply o_index_t); infer_instance; exact rfl; exact rfl; (first | exact Int.cast_ofNat_Int.symm | exact rfl | omega); (first | exact rfl | assumption); exact rfl) | ((with_reducible apply o_neq_t); infer_instance; exact rfl; exact rfl; exact rfl) | ((with_reducible first | apply g_run | apply g_skip_none); exact rfl; exact gG_) | ((with_reducible first | apply c_seq | apply c_block | apply c_region | apply c_nil | apply c_ret | apply c_exit | apply c_unroll | apply c_skip)) | ((with_reducible apply c_cond_t); exact rfl; exact tT_) | ((with_reducible first | apply e_then | apply e_then_ret | apply e_then_exit | apply e_in | apply e_in_ret | apply e_in_same)) | ((with_reducible apply q_nil); try simp only [ents, List.cons_append, List.nil_append]) | ((with_reducible first | apply q_move | apply q_assign); exact rfl; exact rfl) | ((with_reducible apply gdq_load); first | refine wq_load (h := ?_) | refine wq_loadAll (h := ?_) | refine wq_loadC (h := ?_) | refine wq_ldV (h := ?_) | refine wq_ldF (h := ?_)) | ((with_reducible first | apply q_drop_t | apply q_take_t); infer_instance; exact rfl; exact rfl; (first | exact Int.cast_ofNat_Int.symm | exact rfl | omega); (first | assumption | omega | (simp only [List.length_drop, List.length_take, List.length_append]; omega)); exact rfl) | ((with_reducible apply gdq_store); first | refine wq_store1 (h := ?_) | refine wq_storeA (h := ?_) | refine wq_store1E (h := ?_) | refine wq_storeAE (h := ?_)) | ((with_reducible apply gdq_buildSlice); refine wq_buildSlice (h := fun _ => ?_)))
      rename_i a' cap' N' R' hO' hN' hR'
      apply r_body; apply res1 Try.results43; exact rV_; intro w' hw
      exact ⟨by first | rfl | rw [decide_eq_true hy'], a', cap', N', hO', hw.sub (by simp only [List.append_assoc]; ((try dsimp only); repeat (first | exact HSub.nil rfl | (apply HSub.take; (repeat (first | exact Rem.hd | apply Rem.tl | apply Rem.right))) | exact HSub.same | apply HSub.drop | (apply HSub.takeL; (focus ((repeat (first | exact RemL.hd | exact RemL.all | exact RemL.nil | apply RemL.tl | apply RemL.right))))) | (apply HSub.dropL; assumption) | (apply HSub.takeA; (focus ((repeat (first | exact RemL.hd | exact RemL.all | exact RemL.nil | apply RemL.tl | apply RemL.right)))); ((focus (repeat (first | exact AO.nil | apply AO.cons | (apply AO.app; assumption)))) <;> done)) | (apply HSub.nilA; ((focus (repeat (first | exact AO.nil | apply AO.cons | (apply AO.app; assumption)))) <;> done)))))⟩
theorem ap3 (hw0 : Rep w0 w (⟨bs, Ce [str s] 9, f1⟩ :: ⟨bo, Ce [.slice a out.length cap] 46, f2⟩ :: (N ++ L0))) (hO : OW 5 1 encB (.slice a out.length cap) out N) (hn : out.length ≤ 1000) :
    Calls Try.prog 44 #[.int .u8 (y.toNat : Int), ptr bs, ptr bo] w (ApPost w0 L0 N bs bo f1 f2 s out a cap (stepA 3 y s)) := by
  have hN := hO.own
  match s with
  | [] =>
    refine f_enterF3 Try.func44 rfl Try.ntmps44 rfl (hw0) ?_
    repeat' (first | ((with_reducible first | apply o_move | apply o_assign); exact rfl; exact rfl) | ((with_reducible first | apply c_seq | apply c_block | apply c_region | apply c_nil | apply c_ret | apply c_exit | apply c_unroll | apply c_skip)) | ((with_reducible apply c_cond_f); exact rfl; exact fF_) | ((with_reducible first | apply e_then | apply e_then_ret | apply e_then_exit | apply e_in | apply e_in_ret | apply e_in_same)) | ((with_reducible apply c_regionD0 (id := 1) []); kernel_rfl; kernel_rfl) | ((with_reducible apply q_nil); try simp only [ents, List.cons_append, List.nil_append]) | ((with_reducible first | apply q_move | apply q_assign); exact rfl; exact rfl) | ((with_reducible apply gdq_load); first | refine wq_load (h := ?_) | refine wq_loadAll (h := ?_) | refine wq_loadC (h := ?_) | refine wq_ldV (h := ?_) | refine wq_ldF (h := ?_)) | ((with_reducible first | apply q_gtr | apply q_eql | apply q_neq); exact rfl; exact rfl; exact rfl) | ((with_reducible apply q_pick_f); exact rfl; exact fF_; exact rfl; exact rfl) | ((with_reducible apply gdq_call_len); first | refine wq_len_t (h := ?_) | refine wq_len (h := ?_) | refine wq_len_str (h := ?_)) | ((with_reducible apply h_skip); exact rfl; exact gG_; exact rfl))
    apply r_body; apply res1 Try.results44; exact rV_; intro w' hw
    exact ⟨rfl, hw⟩
  | [x] =>
    have lx : [x].length = 1 := rfl
    refine f_enterF3 Try.func44 rfl Try.ntmps44 rfl (hw0) ?_
    repeat' (first | ((with_reducible first | apply o_move | apply o_assign); exact rfl; exact rfl) | ((with_reducible first | apply c_seq | apply c_block | apply c_region | apply c_nil | apply c_ret | apply c_exit | apply c_unroll | apply c_skip)) | ((with_reducible apply c_cond_f); exact rfl; exact fF_) | ((with_reducible first | apply e_then | apply e_then_ret | apply e_then_exit | apply e_in | apply e_in_ret | apply e_in_same)) | ((with_reducible apply c_regionD0 (id := 1) []); kernel_rfl; kernel_rfl) | ((with_reducible apply q_nil); try simp only [ents, List.cons_append, List.nil_append]) | ((with_reducible first | apply q_move | apply q_assign); exact rfl; exact rfl) | ((with_reducible apply gdq_load); first | refine wq_load (h := ?_) | refine wq_loadAll (h := ?_) | refine wq_loadC (h := ?_) | refine wq_ldV (h := ?_) | refine wq_ldF (h := ?_)) | ((with_reducible first | apply q_gtr | apply q_eql | apply q_neq); exact rfl; exact rfl; exact rfl) | ((with_reducible apply q_pick_f); exact rfl; exact fF_; exact rfl; exact rfl) | ((with_reducible apply gdq_call_len); first | refine wq_len_t (h := ?_) | refine wq_len (h := ?_) | refine wq_len_str (h := ?_)) | ((with_reducible apply h_skip); exact rfl; exact gG_; exact rfl))
    apply r_body; apply res1 Try.results44; exact rV_; intro w' hw
    exact ⟨rfl, hw⟩
  | x :: x' :: s =>
    have lx : (x :: x' :: s).length = s.length + 2 := rfl
    by_cases hx : x = x'
    · have hx' := nat_eq hx
      have e : stepA 3 y (x :: x' :: s) = none := by simp [stepA, hx]
      rw [e]
      refine f_enterF3 Try.func44 rfl Try.ntmps44 rfl (hw0) ?_
      repeat' (first | ((with_reducible first | apply o_move | apply o_assign); exact rfl; exact rfl) | ((with_reducible first | apply c_seq | apply c_block | apply c_region | apply c_nil | apply c_ret | apply c_exit | apply c_unroll | apply c_skip)) | ((with_reducible apply c_cond_f); exact rfl; exact fF_) | ((with_reducible first | apply e_then | apply e_then_ret | apply e_then_exit | apply e_in | apply e_in_ret | apply e_in_same)) | ((with_reducible apply c_regionD0 (id := 1) []); kernel_rfl; kernel_rfl) | ((with_reducible apply q_nil); try simp only [ents, List.cons_append, List.nil_append]) | ((with_reducible first | apply q_move | apply q_assign); exact rfl; exact rfl) | ((with_reducible apply gdq_load); first | refine wq_load (h := ?_) | refine wq_loadAll (h := ?_) | refine wq_loadC (h := ?_) | refine wq_ldV (h := ?_) | refine wq_ldF (h := ?_)) | ((with_reducible first | apply q_gtr | apply q_eql | apply q_neq); exact rfl; exact rfl; exact rfl) | ((with_reducible apply q_pick_t); exact rfl; exact tT_; exact rfl; exact rfl) | ((with_reducible apply q_pick_f); exact rfl; exact fF_; exact rfl; exact rfl) | ((with_reducible apply gdq_call_len); first | refine wq_len_t (h := ?_) | refine wq_len (h := ?_) | refine wq_len_str (h := ?_)) | ((with_reducible apply q_index_t); infer_instance; exact rfl; exact rfl; (first | exact Int.cast_ofNat_Int.symm | exact rfl | omega); (first | exact rfl | assumption); exact rfl) | ((with_reducible first | apply h_run | apply h_skip_none); exact rfl; exact gG_) | ((with_reducible apply h_skip); exact rfl; exact gG_; exact rfl))
      apply r_body; apply res1 Try.results44; exact rV_; intro w' hw
      exact ⟨by first | rfl | rw [decide_eq_false (fun h => h hx')], hw⟩
    · have hx' := nat_ne hx
      by_cases hy : y = 0
      · have hy' := y_zero hy
        have e : stepA 3 y (x :: x' :: s) = some (s, [x', x]) := by simp [stepA, hx, hy]
        rw [e]
        refine f_enterF3 Try.func44 rfl Try.ntmps44 rfl (hw0) ?_
        repeat' (first | ((with_reducible apply c_regionA0 (id := 3) (specA 6 N hN [(6, appφ 5 1 encB (out ++ [x', x]))])); kernel_rfl; kernel_rfl; exact rfl; (repeat (first | exact RemL.hd | exact RemL.all | exact RemL.nil | apply RemL.tl | apply RemL.right))) | ((with_reducible apply q_appA (enc := encB) (xs := out) (ys := [x', x]) (H := N)); infer_instance; infer_instance; infer_instance; exact rfl; exact encB_len; exact encB_one; exact rfl; exact rfl; exact rfl; exact rfl; (focus (repeat (first | (apply SubJ.keep; (decide +kernel)) | apply SubJ.drop | exact SubJ.nil))); exact rfl; exact hO; (exact fun w hw => SV.lit [x', x] encB_len hw (by ((focus (repeat (first | assumption | exact At.hd | refine At.tl ?_ | (refine At.left ?_; assumption) | refine At.right ?_))) <;> done)) rfl rfl (by decide)); (constructor <;> (try simp only [List.length_cons, List.length_nil]) <;> omega); intro _ _ _ _ _ _ _) | ((with_reducible first | apply o_move | apply o_assign); exact rfl; exact rfl) | ((with_reducible first | apply c_seq | apply c_block | apply c_region | apply c_nil | apply c_ret | apply c_exit | apply c_unroll | apply c_skip)) | ((with_reducible apply c_cond_t); exact rfl; exact tT_) | ((with_reducible first | apply e_then | apply e_then_ret | apply e_then_exit | apply e_in | apply e_in_ret | apply e_in_same)) | ((with_reducible apply c_regionD0 (id := 1) []); kernel_rfl; kernel_rfl) | ((with_reducible apply q_nil); try simp only [ents, List.cons_append, List.nil_append]) | ((with_reducible first | apply q_move | apply q_assign); exact rfl; exact rfl) | ((with_reducible apply gdq_load); first | refine wq_load (h := ?_) | refine wq_loadAll (h := ?_) | refine wq_loadC (h := ?_) | refine wq_ldV (h := ?_) | refine wq_ldF (h := ?_)) | ((with_reducible first | apply q_gtr | apply q_eql | apply q_neq); exact rfl; exact rfl; exact rfl) | ((with_reducible apply q_pick_t); exact rfl; exact tT_; exact rfl; exact rfl) | ((with_reducible apply gdq_call_len); first | refine wq_len_t (h := ?_) | refine wq_len (h := ?_) | refine wq_len_str (h := ?_)) | ((with_reducible first | apply q_drop_t | apply q_take_t); infer_instance; exact rfl; exact rfl; (first | exact Int.cast_ofNat_Int.symm | exact rfl | omega); (first | assumption | omega | (simp only [List.length_drop, List.length_take, List.length_append]; omega)); exact rfl) | ((with_reducible apply q_index_t); infer_instance; exact rfl; exact rfl; (first | exact Int.cast_ofNat_Int.symm | exact rfl | omega); (first | exact rfl | assumption); exact rfl) | ((with_reducible first | apply h_run | apply h_skip_none); exact rfl; exact gG_) | ((with_reducible apply gdq_store); first | refine wq_store1 (h := ?_) | refine wq_storeA (h := ?_) | refine wq_store1E (h := ?_) | refine wq_storeAE (h := ?_)) | ((with_reducible apply gdq_buildSlice); refine wq_buildSlice (h := fun _ => ?_)))
        rename_i a' cap' N' R' hO' hN' hR'
        apply r_body; apply res1 Try.results44; exact rV_; intro w' hw
        exact ⟨by first | rfl | rw [decide_eq_true hy'], a', cap', N', hO', hw.sub (by simp only [List.append_assoc]; ((try dsimp only); repeat (first | exact HSub.nil rfl | (apply HSub.take; (repeat (first | exact Rem.hd | apply Rem.tl | apply Rem.right))) | exact HSub.same | apply HSub.drop | (apply HSub.takeL; (focus ((repeat (first | exact RemL.hd | exact RemL.all | exact RemL.nil | apply RemL.tl | apply RemL.right))))) | (apply HSub.dropL; assumption) | (apply HSub.takeA; (focus ((repeat (first | exact RemL.hd | exact RemL.all | exact RemL.nil | apply RemL.tl | apply RemL.right)))); ((focus (repeat (first | exact AO.nil | apply AO.cons | (apply AO.app; assumption)))) <;> done)) | (apply HSub.nilA; ((focus (repeat (first | exact AO.nil | apply AO.cons | (apply AO.app; assumption)))) <;> done)))))⟩
      · have hy' := y_nz hy
        have e : stepA 3 y (x :: x' :: s) = none := by simp [stepA, hy]
        rw [e]
        refine f_enterF3 Try.func44 rfl Try.ntmps44 rfl (hw0) ?_
        repeat' (first | ((with_reducible first | apply o_move | apply o_assign); exact rfl; exact rfl) | ((with_reducible first | apply c_seq | apply c_block | apply c_region | apply c_nil | apply c_ret | apply c_exit | apply c_unroll | apply c_skip)) | ((with_reducible apply c_cond_f); exact rfl; exact fF_) | ((with_reducible first | apply e_then | apply e_then_ret | apply e_then_exit | apply e_in | apply e_in_ret | apply e_in_same)) | ((with_reducible apply c_regionD0 (id := 1) []); kernel_rfl; kernel_rfl) | ((with_reducible apply q_nil); try simp only [ents, List.cons_append, List.nil_append]) | ((with_reducible first | apply q_move | apply q_assign); exact rfl; exact rfl) | ((with_reducible apply gdq_load); first | refine wq_load (h := ?_) | refine wq_loadAll (h := ?_) | refine wq_loadC (h := ?_) | refine wq_ldV (h := ?_) | refine wq_ldF (h := ?_)) | ((with_reducible first | apply q_gtr | apply q_eql | apply q_neq); exact rfl; exact rfl; exact rfl) | ((with_reducible apply q_pick_t); exact rfl; exact tT_; exact rfl; exact rfl) | ((with_reducible apply gdq_call_len); first | refine wq_len_t (h := ?_) | refine wq_len (h := ?_) | refine wq_len_str (h := ?_)) | ((with_reducible apply q_index_t); infer_instance; exact rfl; exact rfl; (first | exact Int.cast_ofNat_Int.symm | exact rfl | omega); (first | exact rfl | assumption); exact rfl) | ((with_reducible first | apply h_run | apply h_skip_none); exact rfl; exact gG_))
        apply r_body; apply res1 Try.results44; exact rV_; intro w' hw
        exact ⟨by first | rfl | rw [decide_eq_false hy'], hw⟩
theorem ap4 (hw0 : Rep w0 w (⟨bs, Ce [str s] 9, f1⟩ :: ⟨bo, Ce [.slice a out.length cap] 46, f2⟩ :: (N ++ L0))) (hO : OW 5 1 encB (.slice a out.length cap) out N) (hn : out.length ≤ 1000) :
    Calls Try.prog 45 #[.int .u8 (y.toNat : Int), ptr bs] w (ApPost w0 L0 N bs bo f1 f2 s out a cap (stepA 4 y s)) := by
  cases s with
  | nil =>
    refine f_enterF2 Try.func45 rfl Try.ntmps45 rfl (hw0) ?_
    repeat' (first | ((with_reducible first | apply o_move | apply o_assign); exact rfl; exact rfl) | ((with_reducible apply gdo_load); first | refine wo_load (h := ?_) | refine wo_loadAll (h := ?_) | refine wo_loadC (h := ?_) | refine wo_ldV (h := ?_) | refine wo_ldF (h := ?_)) | ((with_reducible apply o_pick_f); exact rfl; exact fF_; exact rfl; exact rfl) | ((with_reducible first | apply o_eql_t | apply o_neq_t); infer_instance; exact rfl; exact rfl; exact rfl) | ((with_reducible apply g_skip); exact rfl; exact gG_; exact rfl) | ((with_reducible first | apply c_seq | apply c_block | apply c_region | apply c_nil | apply c_ret | apply c_exit | apply c_unroll | apply c_skip)) | ((with_reducible apply c_cond_f); exact rfl; exact fF_) | ((with_reducible first | apply e_then | apply e_then_ret | apply e_then_exit | apply e_in | apply e_in_ret | apply e_in_same)))
    apply r_body; apply res1 Try.results45; exact rV_; intro w' hw
    exact ⟨rfl, hw⟩
  | cons x s =>
    have lx : (x :: s).length = s.length + 1 := rfl
    by_cases hy : y = 0
    · have hy' := y_zero hy
      have e : stepA 4 y (x :: s) = some (s, []) := by simp [stepA, hy]
      rw [e]
      refine f_enterF2 Try.func45 rfl Try.ntmps45 rfl (hw0) ?_
      repeat' (first | ((with_reducible first | apply o_move | apply o_assign); exact rfl; exact rfl) | ((with_reducible apply gdo_load); first | refine wo_load (h := ?_) | refine wo_loadAll (h := ?_) | refine wo_loadC (h := ?_) | refine wo_ldV (h := ?_) | refine wo_ldF (h := ?_)) | ((with_reducible first | apply o_eql | apply o_neq); exact rfl; exact rfl; exact rfl) | ((with_reducible apply o_pick_t); exact rfl; exact tT_; exact rfl; exact rfl) | ((with_reducible apply gdo_store); first | refine wo_store1 (h := ?_) | refine wo_storeA (h := ?_)) | ((with_reducible first | apply o_drop_t | apply o_take_t); infer_instance; exact rfl; exact rfl; (first | exact Int.cast_ofNat_Int.symm | exact rfl | omega); (first | assumption | omega | (simp only [List.length_drop, List.length_take, List.length_append]; omega)); exact rfl) | ((with_reducible first | apply o_eql_t | apply o_neq_t); infer_instance; exact rfl; exact rfl; exact rfl) | ((with_reducible first | apply g_run | apply g_skip_none); exact rfl; exact gG_) | ((with_reducible first | apply c_seq | apply c_block | apply c_region | apply c_nil | apply c_ret | apply c_exit | apply c_unroll | apply c_skip)) | ((with_reducible apply c_cond_t); exact rfl; exact tT_) | ((with_reducible first | apply e_then | apply e_then_ret | apply e_then_exit | apply e_in | apply e_in_ret | apply e_in_same)))
      apply r_body; apply res1 Try.results45; exact rV_; intro w' hw
      refine ⟨by first | rfl | rw [decide_eq_true hy'], a, cap, N, by simpa using hO, ?_⟩
      simpa using hw
    · have hy' := y_nz hy
      have e : stepA 4 y (x :: s) = none := by simp [stepA, hy]
      rw [e]
      refine f_enterF2 Try.func45 rfl Try.ntmps45 rfl (hw0) ?_
      repeat' (first | ((with_reducible first | apply o_move | apply o_assign); exact rfl; exact rfl) | ((with_reducible apply gdo_load); first | refine wo_load (h := ?_) | refine wo_loadAll (h := ?_) | refine wo_loadC (h := ?_) | refine wo_ldV (h := ?_) | refine wo_ldF (h := ?_)) | ((with_reducible first | apply o_eql | apply o_neq); exact rfl; exact rfl; exact rfl) | ((with_reducible apply o_pick_t); exact rfl; exact tT_; exact rfl; exact rfl) | ((with_reducible first | apply o_eql_t | apply o_neq_t); infer_instance; exact rfl; exact rfl; exact rfl) | ((with_reducible first | apply g_run | apply g_skip_none); exact rfl; exact gG_) | ((with_reducible first | apply c_seq | apply c_block | apply c_region | apply c_nil | apply c_ret | apply c_exit | apply c_unroll | apply c_skip)) | ((with_reducible apply c_cond_f); exact rfl; exact fF_) | ((with_reducible first | apply e_then | apply e_then_ret | apply e_then_exit | apply e_in | apply e_in_ret | apply e_in_same)))
      apply r_body; apply res1 Try.results45; exact rV_; intro w' hw
      exact ⟨by first | rfl | rw [decide_eq_false hy'], hw⟩
theorem ap5 (hw0 : Rep w0 w (⟨bs, Ce [str s] 9, f1⟩ :: ⟨bo, Ce [.slice a out.length cap] 46, f2⟩ :: (N ++ L0))) (hO : OW 5 1 encB (.slice a out.length cap) out N) (hn : out.length ≤ 1000) :
    Calls Try.prog 46 #[.int .u8 (y.toNat : Int), ptr bo] w (ApPost w0 L0 N bs bo f1 f2 s out a cap (stepA 5 y s)) := by
  have e : stepA 5 y s = some (s, [y]) := by cases s <;> simp [stepA]
  rw [e]
  refine f_enterF2 Try.func46 rfl Try.ntmps46 rfl (hw0) ?_
  repeat' (first | (apply o_appH (enc := encB) (ys := [y]); infer_instance; infer_instance; infer_instance; exact rfl; exact encB_len; exact encB_one; exact rfl; exact rfl; exact rfl; assumption; (repeat (first | exact RemL.hd | exact RemL.all | exact RemL.nil | apply RemL.tl | apply RemL.right)); (exact fun w hw => SV.lit [y] encB_len hw (by ((focus (repeat (first | assumption | exact At.hd | refine At.tl ?_ | (refine At.left ?_; assumption) | refine At.right ?_))) <;> done)) rfl rfl (by decide)); (first | decide | (constructor <;> (try simp only [List.length_cons, List.length_nil]) <;> omega) | (constructor <;> simp <;> omega)); intro _ _ _ _) | ((with_reducible first | apply o_move | apply o_assign); exact rfl; exact rfl) | ((with_reducible apply gdo_load); first | refine wo_load (h := ?_) | refine wo_loadAll (h := ?_) | refine wo_loadC (h := ?_) | refine wo_ldV (h := ?_) | refine wo_ldF (h := ?_)) | ((with_reducible apply gdo_store); first | refine wo_store1 (h := ?_) | refine wo_storeA (h := ?_)) | ((with_reducible apply gdo_buildSlice); refine wo_buildSlice (h := fun _ => ?_)) | ((with_reducible first | apply c_seq | apply c_block | apply c_region | apply c_nil | apply c_ret | apply c_exit | apply c_unroll | apply c_skip)) | ((with_reducible first | apply e_then | apply e_then_ret | apply e_then_exit | apply e_in | apply e_in_ret | apply e_in_same)))
  rename_i a' cap' N' hO'
  apply r_body; apply res1 Try.results46; exact rV_; intro w' hw
  exact ⟨rfl, a', cap', N', hO', hw.sub (by ((try dsimp only); repeat (first | exact HSub.nil rfl | (apply HSub.take; (repeat (first | exact Rem.hd | apply Rem.tl | apply Rem.right))) | exact HSub.same | apply HSub.drop | (apply HSub.takeL; (focus ((repeat (first | exact RemL.hd | exact RemL.all | exact RemL.nil | apply RemL.tl | apply RemL.right))))) | (apply HSub.dropL; assumption) | (apply HSub.takeA; (focus ((repeat (first | exact RemL.hd | exact RemL.all | exact RemL.nil | apply RemL.tl | apply RemL.right)))); ((focus (repeat (first | exact AO.nil | apply AO.cons | (apply AO.app; assumption)))) <;> done)) | (apply HSub.nilA; ((focus (repeat (first | exact AO.nil | apply AO.cons | (apply AO.app; assumption)))) <;> done)))))⟩
def amap (bs bo : Nat) : List (Value × Value) := [(.int .u8 1, .func (.func 42) #[] #[ptr bs, ptr bo]), (.int .u8 2, .func (.func 43) #[] #[ptr bs, ptr bo]), (.int .u8 3, .func (.func 44) #[] #[ptr bs, ptr bo]), (.int .u8 4, .func (.func 45) #[] #[ptr bs]), (.int .u8 5, .func (.func 46) #[] #[ptr bo])]
theorem amap_mk (bs bo : Nat) : MK (.int .u8) (amap bs bo) := by constructor <;> simp [amap, MapKept.IsKey]
theorem ap_any (bs bo : Nat) {k : Nat} (hk : 1 ≤ k ∧ k ≤ 5) : ∃ f fn caps, TC Try.prog f fn ∧ (amap bs bo)[k - 1]? = some (.int .u8 k, .func (.func f) #[] caps) ∧
    ∀ {w0 w : World} {L0 N : List Ent} {cap : Nat} {f1 f2 : Bool} {s out : Edit.T} {a : Option Addr} {y : UInt8}, Rep w0 w (⟨bs, Ce [str s] 9, f1⟩ :: ⟨bo, Ce [.slice a out.length cap] 46, f2⟩ :: (N ++ L0)) → OW 5 1 encB (.slice a out.length cap) out N → out.length ≤ 1000 →
      Calls Try.prog f (#[.int .u8 (y.toNat : Int)] ++ caps) w (ApPost w0 L0 N bs bo f1 f2 s out a cap (stepA k y s)) := by
  have : k = 1 ∨ k = 2 ∨ k = 3 ∨ k = 4 ∨ k = 5 := by omega
  rcases this with rfl | rfl | rfl | rfl | rfl
  · exact ⟨42, _, _, inferInstance, rfl, fun h1 h2 h3 => ap1 h1 h2 h3⟩
  · exact ⟨43, _, _, inferInstance, rfl, fun h1 h2 h3 => ap2 h1 h2 h3⟩
  · exact ⟨44, _, _, inferInstance, rfl, fun h1 h2 h3 => ap3 h1 h2 h3⟩
  · exact ⟨45, _, _, inferInstance, rfl, fun h1 h2 h3 => ap4 h1 h2 h3⟩
  · exact ⟨46, _, _, inferInstance, rfl, fun h1 h2 h3 => ap5 h1 h2 h3⟩
theorem ofNat_y (y : UInt8) : UInt8.ofNat ((y.toNat : Int)).toNat = y := by simp
theorem apply_stepA {k : Nat} (hk : 1 ≤ k ∧ k ≤ 5) (y : UInt8) (s : Edit.T) (l : List Edit.Op) :
    Edit.apply s (⟨(k : Int), (y.toNat : Int)⟩ :: l) = match stepA k y s with
      | some (s', ad) => (Edit.apply s' l).map (ad ++ ·)
      | none => none := by
  have hz : ((y.toNat : Int) = 0) ↔ y = 0 := ⟨fun h => Classical.byContradiction fun hn => y_nz hn h, y_zero⟩
  have : k = 1 ∨ k = 2 ∨ k = 3 ∨ k = 4 ∨ k = 5 := by omega
  rcases this with rfl | rfl | rfl | rfl | rfl
  · cases s with
    | nil => simp [Edit.apply, stepA]
    | cons x s =>
      by_cases h : y = 0
      · simp [Edit.apply, stepA, h]
      · simp [Edit.apply, stepA, h, y_nz' h]
  · cases s with
    | nil => simp [Edit.apply, stepA]
    | cons x s =>
      by_cases h : x = y
      · simp [Edit.apply, stepA, h]
      · simp [Edit.apply, stepA, h, nat_ne h, ofNat_y]
  · match s with
    | [] => simp [Edit.apply, stepA]
    | [x] => simp [Edit.apply, stepA]
    | x :: x' :: s =>
      by_cases h : y = 0
      · by_cases h2 : x = x' <;> simp [Edit.apply, stepA, h, h2]
      · simp [Edit.apply, stepA, h, y_nz' h]
  · cases s with
    | nil => simp [Edit.apply, stepA]
    | cons x s =>
      by_cases h : y = 0
      · simp [Edit.apply, stepA, h]
      · simp [Edit.apply, stepA, h, y_nz' h]
  · cases s <;> simp [Edit.apply, stepA, ofNat_y]
theorem apply_bad {kd by' : Int} (h : ¬ (1 ≤ kd ∧ kd ≤ 5)) (s : Edit.T) (l : List Edit.Op) : Edit.apply s (⟨kd, by'⟩ :: l) = none := by
  have h1 : ¬ kd = 1 := by omega
  have h2 : ¬ kd = 2 := by omega
  have h3 : ¬ kd = 3 := by omega
  have h4 : ¬ kd = 4 := by omega
  have h5 : ¬ kd = 5 := by omega
  cases s <;> simp [Edit.apply, h1, h2, h3, h4, h5]
end
end Go.Proofs.Ytgkejkfodigdiaa
