/-
  A part of the proofs of this seat: what some of the program's functions compute, shown by walks through their code. Conditions: the hypotheses that each theorem names. (Its blocks of tactics were laid by a small program.)
-/
import Derived.Test.YtcocnhfbdcapbaaFx
set_option linter.unusedSimpArgs false
set_option linter.unusedVariables false
namespace Go.Proofs.Ytcocnhfbdcapbaa
open Go Go.Sx Go.RowKit
structure Leg where
  id : Int
  fr : Int
  to : Int
  dep : Int
  min : Int
  cut : Int
  gr : Int
  days : Int
def legC (l : Leg) : List Value := [.int .i64 l.id, .int .i64 l.fr, .int .i64 l.to, .int .i64 l.dep, .int .i64 l.min, .int .i64 l.cut, .int .i64 l.gr, .int .u8 l.days]
def legV (l : Leg) : Value := .agg (legC l).toArray
def lims (l : Leg) : List (Int × Int × Int) := [(l.id, 1, 999999), (l.fr, 1, 999999), (l.to, 1, 999999), (l.dep, 0, 1439), (l.min, 1, 20160), (l.cut, 0, 10080), (l.gr, 0, 1000000000), (l.days, 1, 127)]
def limC (x : Int × Int × Int) : List Value := [.int .i64 x.1, .int .i64 x.2.1, .int .i64 x.2.2]
def inL (x : Int × Int × Int) : Prop := x.2.1 ≤ x.1 ∧ x.1 ≤ x.2.2
def Right (l : Leg) : Prop := (∀ x ∈ lims l, inL x) ∧ l.fr ≠ l.to
attribute [local irreducible] WL WC St Exit.then Exit.inBlock bodyPost
set_option maxHeartbeats 1000000 in
theorem right_calls (l : Leg) (w : World) (hd : 0 ≤ l.days ∧ l.days ≤ 255) : Calls Try.prog 13 #[legV l] w fun e w' => e = .returned (.bool (B (Right l))) ∧ Below w.heap.size w w' := by
  have hwrap : IntKind.i64.wrap l.days = l.days := wrap_in (by omega) (by omega)
  refine f_enter1 Try.func13 rfl Try.ntmps13 rfl (Rep.start w) ?_
  repeat' (first | ((with_reducible first | apply o_move | apply o_assign | apply o_faddr0 | apply o_conv); exact rfl; exact rfl) | ((with_reducible apply gdo_load); first | refine wo_load (h := ?_) | refine wo_loadAll (h := ?_) | refine wo_loadC (h := ?_) | refine wo_ldV (h := ?_) | refine wo_ldF (h := ?_)) | ((with_reducible apply o_alloc); exact rfl; intro _) | ((with_reducible apply o_box); exact rfl; exact rfl; exact rfl; intro _) | ((with_reducible apply gdo_store); first | refine wo_store1 (h := ?_) | refine wo_storeA (h := ?_)) | ((with_reducible apply gdo_build); first | refine wo_build (h := ?_) | refine wo_buildA (h := ?_)) | ((with_reducible first | apply c_seq | apply c_block | apply c_region | apply c_nil | apply c_ret | apply c_exit | apply c_skip)) | ((with_reducible first | apply e_then | apply e_then_ret | apply e_then_exit | apply e_in | apply e_in_ret | apply e_in_same)))
  rename_i b1 b2
  rw [hwrap]
  apply c_loop (σ := Nat) (Fs := fun i => [(33, .int .i64 i), (32, .agg (((lims l).flatMap limC).toArray)), (2, .bool false), (1, .pointer (some ⟨b1, 0, none⟩))]) (Ls := fun i => [⟨b1, Ce (legC l) 23, true⟩])
    (I := fun i => i ≤ 8 ∧ ∀ j, j < i → ∀ x, (lims l)[j]? = some x → inL x) (μ := fun i => 8 - i) (s0 := 0)
  · exact ⟨by omega, fun j hj => by omega⟩
  · (repeat (first | exact FSub.nil | refine FSub.cons rfl ?_))
  · ((try dsimp only); repeat (first | exact HSub.nil rfl | (apply HSub.take; (repeat (first | exact Rem.hd | apply Rem.tl | apply Rem.right))) | exact HSub.same | apply HSub.drop | (apply HSub.takeL; (focus ((repeat (first | exact RemL.hd | exact RemL.all | exact RemL.nil | apply RemL.tl | apply RemL.right))))) | (apply HSub.dropL; assumption) | (apply HSub.takeA; (focus ((repeat (first | exact RemL.hd | exact RemL.all | exact RemL.nil | apply RemL.tl | apply RemL.right)))); ((focus (repeat (first | exact AO.nil | apply AO.cons | (apply AO.app; assumption)))) <;> done)) | (apply HSub.nilA; ((focus (repeat (first | exact AO.nil | apply AO.cons | (apply AO.app; assumption)))) <;> done))))
  intro i ⟨hi, hall⟩
  by_cases hlt : i < 8
  · obtain ⟨x, hx⟩ : ∃ x, (lims l)[i]? = some x := ⟨_, List.getElem?_eq_getElem (by simpa [lims] using hlt)⟩
    have hcs : (((lims l).flatMap limC).toArray).extract ((i : Int).toNat * 3) ((i : Int).toNat * 3 + 3) = (limC x).toArray := by
      have : i = 0 ∨ i = 1 ∨ i = 2 ∨ i = 3 ∨ i = 4 ∨ i = 5 ∨ i = 6 ∨ i = 7 := by omega
      rcases this with rfl | rfl | rfl | rfl | rfl | rfl | rfl | rfl <;> (cases hx; rfl)
    repeat' (first | (refine o_index_agg rfl rfl rfl (by omega) hcs ?_) | ((with_reducible first | apply o_move | apply o_assign | apply o_faddr0 | apply o_conv); exact rfl; exact rfl) | ((with_reducible apply gdo_load); first | refine wo_load (h := ?_) | refine wo_loadAll (h := ?_) | refine wo_loadC (h := ?_) | refine wo_ldV (h := ?_) | refine wo_ldF (h := ?_)) | ((with_reducible first | apply o_lss | apply o_gtr | apply o_neq); exact rfl; exact rfl; exact rfl) | ((with_reducible apply o_add); exact rfl; exact rfl; exact rfl; (constructor <;> omega)) | ((with_reducible apply o_pick_t); exact rfl; (first | rfl | assumption | exact decide_eq_true (by first | assumption | omega) | exact B_true (by first | assumption | omega | decide)); exact rfl; exact rfl) | ((with_reducible apply o_pick_f); exact rfl; (first | rfl | assumption | exact decide_eq_false (by first | assumption | omega) | exact B_false (by first | assumption | omega | decide)); exact rfl; exact rfl) | ((with_reducible apply o_alloc); exact rfl; intro _) | ((with_reducible apply gdo_store); first | refine wo_store1 (h := ?_) | refine wo_storeA (h := ?_)) | ((with_reducible first | apply g_run | apply g_skip_none); exact rfl; (first | rfl | assumption | exact decide_eq_true (by first | assumption | omega) | exact B_true (by first | assumption | omega | decide) | rfl | assumption | exact decide_eq_false (by first | assumption | omega) | exact B_false (by first | assumption | omega | decide))) | ((with_reducible apply g_skip); exact rfl; (first | rfl | assumption | exact decide_eq_true (by first | assumption | omega) | exact B_true (by first | assumption | omega | decide) | rfl | assumption | exact decide_eq_false (by first | assumption | omega) | exact B_false (by first | assumption | omega | decide)); exact rfl) | ((with_reducible first | apply c_seq | apply c_block | apply c_region | apply c_nil | apply c_ret | apply c_exit | apply c_skip)) | ((with_reducible apply c_cond_t); exact rfl; (first | rfl | assumption | exact decide_eq_true (by first | assumption | omega) | exact B_true (by first | assumption | omega | decide))) | ((with_reducible first | apply e_then | apply e_then_ret | apply e_then_exit | apply e_in | apply e_in_ret | apply e_in_same)) | ((with_reducible apply c_cond_d); exact rfl; intro hcond; rotate_left; intro hcond; rotate_left) | ((with_reducible apply g_split_d); exact rfl; intro hcond; rotate_left; intro hcond; rotate_left))
    · apply r_body; apply res1 Try.results13; (first | exact rv_tmp rfl | (apply rv_cell; infer_instance; rfl; (first | exact Kn.old (by assumption) rfl | (apply Kn.oldA; assumption; ((focus (repeat (first | exact AO.nil | apply AO.cons | (apply AO.app; assumption)))) <;> done)) | (refine Kn.at ?_; ((focus (repeat (first | assumption | exact At.hd | refine At.tl ?_ | refine At.right ?_))) <;> done))); (repeat (first | exact Nth.z | apply Nth.s))) | (apply rv_cellA; infer_instance; infer_instance; rfl; (first | exact Kn.old (by assumption) rfl | (apply Kn.oldA; assumption; ((focus (repeat (first | exact AO.nil | apply AO.cons | (apply AO.app; assumption)))) <;> done)) | (refine Kn.at ?_; ((focus (repeat (first | assumption | exact At.hd | refine At.tl ?_ | refine At.right ?_))) <;> done))); rfl)); intro w' hw
      exact ⟨by rw [B_false]; intro h; have := (h.1 x (List.mem_of_getElem? hx)).1; omega, hw.below (by simp)⟩
    · apply r_body; apply res1 Try.results13; (first | exact rv_tmp rfl | (apply rv_cell; infer_instance; rfl; (first | exact Kn.old (by assumption) rfl | (apply Kn.oldA; assumption; ((focus (repeat (first | exact AO.nil | apply AO.cons | (apply AO.app; assumption)))) <;> done)) | (refine Kn.at ?_; ((focus (repeat (first | assumption | exact At.hd | refine At.tl ?_ | refine At.right ?_))) <;> done))); (repeat (first | exact Nth.z | apply Nth.s))) | (apply rv_cellA; infer_instance; infer_instance; rfl; (first | exact Kn.old (by assumption) rfl | (apply Kn.oldA; assumption; ((focus (repeat (first | exact AO.nil | apply AO.cons | (apply AO.app; assumption)))) <;> done)) | (refine Kn.at ?_; ((focus (repeat (first | assumption | exact At.hd | refine At.tl ?_ | refine At.right ?_))) <;> done))); rfl)); intro w' hw
      exact ⟨by rw [B_false]; intro h; have := (h.1 x (List.mem_of_getElem? hx)).2; omega, hw.below (by simp)⟩
    · refine l_again (i + 1) ⟨by omega, fun j hj y hy => ?_⟩ (by omega) ?_ ?_
      · by_cases e : j = i
        · subst e; rw [hx] at hy; cases hy; exact ⟨by omega, by omega⟩
        · exact hall j (by omega) y hy
      · (repeat (first | exact FSub.nil | refine FSub.cons rfl ?_))
      · ((try dsimp only); repeat (first | exact HSub.nil rfl | (apply HSub.take; (repeat (first | exact Rem.hd | apply Rem.tl | apply Rem.right))) | exact HSub.same | apply HSub.drop | (apply HSub.takeL; (focus ((repeat (first | exact RemL.hd | exact RemL.all | exact RemL.nil | apply RemL.tl | apply RemL.right))))) | (apply HSub.dropL; assumption) | (apply HSub.takeA; (focus ((repeat (first | exact RemL.hd | exact RemL.all | exact RemL.nil | apply RemL.tl | apply RemL.right)))); ((focus (repeat (first | exact AO.nil | apply AO.cons | (apply AO.app; assumption)))) <;> done)) | (apply HSub.nilA; ((focus (repeat (first | exact AO.nil | apply AO.cons | (apply AO.app; assumption)))) <;> done))))
  · repeat' (first | ((with_reducible first | apply o_move | apply o_assign | apply o_faddr0 | apply o_conv); exact rfl; exact rfl) | ((with_reducible apply gdo_load); first | refine wo_load (h := ?_) | refine wo_loadAll (h := ?_) | refine wo_loadC (h := ?_) | refine wo_ldV (h := ?_) | refine wo_ldF (h := ?_)) | ((with_reducible first | apply o_lss | apply o_gtr | apply o_neq); exact rfl; exact rfl; exact rfl) | ((with_reducible first | apply c_seq | apply c_block | apply c_region | apply c_nil | apply c_ret | apply c_exit | apply c_skip)) | ((with_reducible apply c_cond_f); exact rfl; (first | rfl | assumption | exact decide_eq_false (by first | assumption | omega) | exact B_false (by first | assumption | omega | decide))) | ((with_reducible first | apply e_then | apply e_then_ret | apply e_then_exit | apply e_in | apply e_in_ret | apply e_in_same)))
    apply r_body; apply res1 Try.results13; (first | exact rv_tmp rfl | (apply rv_cell; infer_instance; rfl; (first | exact Kn.old (by assumption) rfl | (apply Kn.oldA; assumption; ((focus (repeat (first | exact AO.nil | apply AO.cons | (apply AO.app; assumption)))) <;> done)) | (refine Kn.at ?_; ((focus (repeat (first | assumption | exact At.hd | refine At.tl ?_ | refine At.right ?_))) <;> done))); (repeat (first | exact Nth.z | apply Nth.s))) | (apply rv_cellA; infer_instance; infer_instance; rfl; (first | exact Kn.old (by assumption) rfl | (apply Kn.oldA; assumption; ((focus (repeat (first | exact AO.nil | apply AO.cons | (apply AO.app; assumption)))) <;> done)) | (refine Kn.at ?_; ((focus (repeat (first | assumption | exact At.hd | refine At.tl ?_ | refine At.right ?_))) <;> done))); rfl)); intro w' hw
    refine ⟨?_, hw.below (by simp)⟩
    have hA : ∀ x ∈ lims l, inL x := fun x hx => by
      obtain ⟨j, hj, rfl⟩ := List.getElem_of_mem hx
      exact hall j (by simp [lims] at hj; omega) _ (List.getElem?_eq_getElem hj)
    rw [decide_B, B_congr]
    exact ⟨fun h => ⟨hA, h⟩, fun h => h.2⟩
end Go.Proofs.Ytcocnhfbdcapbaa
