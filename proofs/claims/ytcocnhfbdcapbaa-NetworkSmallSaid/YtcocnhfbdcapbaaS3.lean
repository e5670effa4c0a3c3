/-
  A part of the proofs of this seat: what some of the program's functions compute, shown by walks through their code. Conditions: the hypotheses that each theorem names. (Its blocks of tactics were laid by a small program.)
-/
import Derived.Test.YtcocnhfbdcapbaaS1
set_option linter.unusedSimpArgs false
set_option linter.unusedVariables false
namespace Go.Proofs.Ytcocnhfbdcapbaa
open Go Go.Sx Go.RowKit
attribute [local irreducible] WL WC WQ St Exit.then Exit.inBlock bodyPost roundPost beginK YR RG BM Calls B validF
/-! ## networks copied -/
theorem copyNet_calls {pv lv : Value} {ps : List Int} {ls : List Leg} (w : World) (hp : SV w 1 encI pv ps) (hl : SV w 8 legC lv ls) (h1 : ps.length ≤ 1000) (h2 : ls.length ≤ 1000) : Calls Try.prog 43 #[netV pv lv] w fun e w' =>
    ∃ v N, e = .returned v ∧ (∃ a1 c1 a2 c2 N1 N2, v = netV (.slice a1 ps.length c1) (.slice a2 ls.length c2) ∧ OW 3 1 encI (.slice a1 ps.length c1) ps N1 ∧ OW 23 8 legC (.slice a2 ls.length c2) ls N2 ∧ N = N2 ++ N1 ∧ (∀ x ∈ N1, x.own = true) ∧ ∀ x ∈ N2, x.own = true) ∧ Rep w w' N ∧ ∀ x ∈ N, x.own = true := by
  have c54 : ∀ w', SV w' 1 encI pv ps → Calls Try.prog 54 #[pv] w' fun e w'' => ∃ v N, e = .returned v ∧ (∃ a cap, v = .slice a ps.length cap ∧ OW 3 1 encI (.slice a ps.length cap) ps N ∧ ∀ x ∈ N, x.own = true) ∧ Rep w' w'' N ∧ ∀ x ∈ N, x.own = true := fun w' h => (copyInts_calls w' h (by omega)).mono fun e w'' ⟨v, N, g1, g2, g3, g4⟩ => by
    obtain ⟨a, cap, rfl, _, _⟩ := g2.open
    exact ⟨_, N, g1, ⟨a, cap, rfl, g2, g4⟩, g3, g4⟩
  have c55 : ∀ w', SV w' 8 legC lv ls → Calls Try.prog 55 #[lv] w' fun e w'' => ∃ v N, e = .returned v ∧ (∃ a cap, v = .slice a ls.length cap ∧ OW 23 8 legC (.slice a ls.length cap) ls N ∧ ∀ x ∈ N, x.own = true) ∧ Rep w' w'' N ∧ ∀ x ∈ N, x.own = true := fun w' h => (copyLegs_calls w' h (by omega)).mono fun e w'' ⟨v, N, g1, g2, g3, g4⟩ => by
    obtain ⟨a, cap, rfl, _, _⟩ := g2.open
    exact ⟨_, N, g1, ⟨a, cap, rfl, g2, g4⟩, g3, g4⟩
  obtain ⟨a0, ca, rfl, hca, _⟩ := hp.open
  obtain ⟨a1, cb, rfl, hcb, _⟩ := hl.open
  refine f_enter1 Try.func43 rfl Try.ntmps43 rfl (Rep.start w) ?_
  repeat' (first | ((first | ((with_reducible apply o_call_new (f := 54)); exact rfl) | ((with_reducible apply q_call_new (f := 54)); exact rfl; exact rfl; (focus (repeat (first | (apply SubJ.keep; (decide +kernel)) | apply SubJ.drop | exact SubJ.nil))))); (repeat (first | exact Evs.nil | apply Evs.cons rfl)); exact (fun w hw => c54 w (hp.keep hw (by ((focus (repeat (first | exact AO.nil | apply AO.cons | (apply AO.app; assumption)))) <;> done)))); rintro v1 N1 ⟨a2, c2, rfl, h1, o1⟩ <;> (try simp only [List.cons_append, List.nil_append])) | ((first | ((with_reducible apply o_call_new (f := 55)); exact rfl) | ((with_reducible apply q_call_new (f := 55)); exact rfl; exact rfl; (focus (repeat (first | (apply SubJ.keep; (decide +kernel)) | apply SubJ.drop | exact SubJ.nil))))); (repeat (first | exact Evs.nil | apply Evs.cons rfl)); exact (fun w hw => c55 w (hl.keep hw (by ((focus (repeat (first | exact AO.nil | apply AO.cons | (apply AO.app; assumption)))) <;> done)))); rintro v2 N2 ⟨a3, c3, rfl, h2, o2⟩ <;> (try simp only [List.cons_append, List.nil_append])) | ((with_reducible apply o_faddr0); exact rfl; exact rfl) | ((with_reducible apply gdo_load); first | refine wo_load (h := ?_) | refine wo_loadAll (h := ?_) | refine wo_loadC (h := ?_) | refine wo_ldV (h := ?_) | refine wo_ldF (h := ?_)) | ((with_reducible apply o_alloc); exact rfl; intro _) | ((with_reducible apply o_box); exact rfl; exact rfl; exact rfl; intro _) | ((with_reducible apply gdo_store); first | refine wo_store1 (h := ?_) | refine wo_storeA (h := ?_)) | ((with_reducible first | apply c_seq | apply c_block | apply c_region | apply c_nil | apply c_ret | apply c_exit | apply c_skip)) | ((with_reducible first | apply e_then | apply e_then_ret | apply e_then_exit | apply e_in | apply e_in_ret | apply e_in_same)))
  apply r_body; apply res1 Try.results43; (first | exact rv_tmp rfl | (apply rv_cell; infer_instance; rfl; (first | exact Kn.old (by assumption) rfl | (apply Kn.oldA; assumption; ((focus (repeat (first | exact AO.nil | apply AO.cons | (apply AO.app; assumption)))) <;> done)) | (refine Kn.at ?_; ((focus (repeat (first | assumption | exact At.hd | refine At.tl ?_ | refine At.right ?_))) <;> done))); (repeat (first | exact Nth.z | apply Nth.s))) | (apply rv_cellA; infer_instance; infer_instance; rfl; (first | exact Kn.old (by assumption) rfl | (apply Kn.oldA; assumption; ((focus (repeat (first | exact AO.nil | apply AO.cons | (apply AO.app; assumption)))) <;> done)) | (refine Kn.at ?_; ((focus (repeat (first | assumption | exact At.hd | refine At.tl ?_ | refine At.right ?_))) <;> done))); rfl)); intro w' hw
  refine ⟨_, N2 ++ N1, rfl, ⟨_, _, _, _, _, _, rfl, h1, h2, rfl, o1, o2⟩, hw.sub ?_, ?_⟩
  · exact HSub.takeL RemL.hd (HSub.takeA RemL.hd (by ((focus (repeat (first | exact AO.nil | apply AO.cons | (apply AO.app; assumption)))) <;> done)))
  · intro x hx
    rcases List.mem_append.1 hx with hx | hx
    · exact h2.own x hx
    · exact h1.own x hx
end Go.Proofs.Ytcocnhfbdcapbaa
