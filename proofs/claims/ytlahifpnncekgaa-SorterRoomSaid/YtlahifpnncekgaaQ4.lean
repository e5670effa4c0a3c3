/-
  A part of the proofs of this seat: what some of the program's functions compute, shown by walks through their code. Conditions: the hypotheses that each theorem names. (Its blocks of tactics were laid by a small program.)
-/
import Derived.Test.YtlahifpnncekgaaQ3
set_option linter.unusedSimpArgs false
set_option linter.unusedVariables false
namespace Go.Proofs.Ytlahifpnncekgaa
open Go Go.Sx Go.RowKit
attribute [local irreducible] WL WC WQ WR St Exit.then Exit.inBlock Exit.noGoto bodyPost roundPost beginK YR RG BM Calls B AgainD MeetD
/-! ## Check, Find -/
theorem mis_some {pv : Value} {p : Seq.Plan} {i : Nat} (hr : Seq.misF p.caps.length none 0 p.seats = some i) (w : World) (h : PV w pv p) : Calls Try.prog 43 #[pv] w fun e w' => e = .returned (.tuple #[.int .i64 i, .bool true]) ∧ Below w.heap.size w w' := by
  have := misplaced_calls w h; rwa [hr] at this
theorem mis_none {pv : Value} {p : Seq.Plan} (hr : Seq.misF p.caps.length none 0 p.seats = none) (w : World) (h : PV w pv p) : Calls Try.prog 43 #[pv] w fun e w' => e = .returned (.tuple #[.int .i64 0, .bool false]) ∧ Below w.heap.size w w' := by
  have := misplaced_calls w h; rwa [hr] at this
theorem PV.mk {w : World} {p : Seq.Plan} {a1 a2 a3 a4 : Option Addr} {n1 n2 n3 n4 c1 c2 c3 c4 : Nat} (h1 : SV w 1 encI (.slice a1 n1 c1) p.caps) (h2 : SV w 4 encSeat (.slice a2 n2 c2) p.seats) (h3 : SV w 1 encI (.slice a3 n3 c3) p.first) (h4 : SV w 1 encI (.slice a4 n4 c4) p.second) :
    PV w (.agg #[.slice a1 n1 c1, .slice a2 n2 c2, .slice a3 n3 c3, .slice a4 n4 c4]) p := ⟨_, _, _, _, rfl, h1, h2, h3, h4⟩
def errV (r : Nat × Int) : Value := .tuple #[.int .i64 r.1, .int .i64 r.2]
set_option maxHeartbeats 4000000 in
theorem check_calls {pv : Value} {p : Seq.Plan} (w : World) (h : PV w pv p) : Calls Try.prog 29 #[pv] w fun e w' => e = .returned (errV (Seq.checkF p)) ∧ Below w.heap.size w w' := by
  obtain ⟨a1, c1, a2, c2, a3, c3, a4, c4, rfl, h1, h2, h3, h4⟩ := h.open
  obtain ⟨caps, l, fs, ss⟩ := p
  simp only [] at h1 h2 h3 h4 ⊢
  obtain ⟨_, _, e1, hc1, hop1⟩ := h1.open
  cases e1
  obtain ⟨_, _, e2, hc2, hop2⟩ := h2.open
  cases e2
  obtain ⟨_, _, e3, hc3, hop3⟩ := h3.open
  cases e3
  obtain ⟨_, _, e4, hc4, hop4⟩ := h4.open
  cases e4
  by_cases hm : Seq.machineOk caps
  case neg =>
    have e : Seq.checkF ⟨caps, l, fs, ss⟩ = (0, 280) := by unfold Seq.checkF; rw [if_pos hm]
    rw [e]
    refine f_enter1 Try.func29 rfl Try.ntmps29 rfl (Rep.start w) ?_
    repeat' (first | ((first | ((with_reducible apply o_call_pure (f := 37)); exact rfl) | ((with_reducible apply q_call_pure (f := 37)); exact rfl; kernel_rfl; exact rfl; (focus (repeat (first | (apply SubJ.keep; (decide +kernel)) | apply SubJ.drop | exact SubJ.nil))))); (repeat (first | exact Evs.nil | apply Evs.cons rfl)); exact (fun w hw => machine_no hm w (h1.keep hw (by ((focus (repeat (first | exact AO.nil | apply AO.cons | (apply AO.app; assumption)))) <;> done))))) | ((with_reducible first | apply o_move | apply o_assign | apply o_faddr0 | apply o_not_d); exact rfl; exact rfl) | ((with_reducible apply gdo_load); first | refine wo_load (h := ?_) | refine wo_loadAll (h := ?_) | refine wo_loadC (h := ?_) | refine wo_ldV (h := ?_) | refine wo_ldF (h := ?_)) | ((with_reducible apply o_not); exact rfl; exact rfl) | ((with_reducible apply o_box); exact rfl; exact rfl; exact rfl; intro _) | ((with_reducible first | apply c_seq | apply c_block | apply c_region | apply c_nil | apply c_ret | apply c_exit | apply c_unroll | apply c_skip)) | ((with_reducible apply c_cond_t); exact rfl; exact tT_) | ((with_reducible first | apply e_then | apply e_then_ret | apply e_then_exit | apply e_in | apply e_in_ret | apply e_in_same)))
    apply r_body; apply res2 Try.results29; exact rV_; exact rV_; intro w' hw
    exact ⟨rfl, hw.below (by simp)⟩
  have hm' := hm
  unfold Seq.machineOk at hm'
  obtain ⟨hm1, hm2⟩ := hm'
  by_cases hbig : 1000 < l.length
  · have e : Seq.checkF ⟨caps, l, fs, ss⟩ = (0, 5) := by unfold Seq.checkF; rw [if_neg (fun h => h hm), if_pos hbig]
    rw [e]
    refine f_enter1 Try.func29 rfl Try.ntmps29 rfl (Rep.start w) ?_
    repeat' (first | ((first | ((with_reducible apply o_call_pure (f := 37)); exact rfl) | ((with_reducible apply q_call_pure (f := 37)); exact rfl; kernel_rfl; exact rfl; (focus (repeat (first | (apply SubJ.keep; (decide +kernel)) | apply SubJ.drop | exact SubJ.nil))))); (repeat (first | exact Evs.nil | apply Evs.cons rfl)); exact (fun w hw => machine_yes hm w (h1.keep hw (by ((focus (repeat (first | exact AO.nil | apply AO.cons | (apply AO.app; assumption)))) <;> done))))) | ((with_reducible first | apply o_move | apply o_assign | apply o_faddr0 | apply o_not_d); exact rfl; exact rfl) | ((with_reducible apply gdo_load); first | refine wo_load (h := ?_) | refine wo_loadAll (h := ?_) | refine wo_loadC (h := ?_) | refine wo_ldV (h := ?_) | refine wo_ldF (h := ?_)) | ((with_reducible first | apply o_lss | apply o_gtr | apply o_neq | apply o_extract); exact rfl; exact rfl; exact rfl) | ((with_reducible apply o_not); exact rfl; exact rfl) | ((with_reducible apply o_box); exact rfl; exact rfl; exact rfl; intro _) | ((with_reducible apply o_len); infer_instance; exact rfl; exact rfl) | ((with_reducible first | apply c_seq | apply c_block | apply c_region | apply c_nil | apply c_ret | apply c_exit | apply c_unroll | apply c_skip)) | ((with_reducible apply c_cond_t); exact rfl; exact tT_) | ((with_reducible apply c_cond_f); exact rfl; exact fF_) | ((with_reducible first | apply e_then | apply e_then_ret | apply e_then_exit | apply e_in | apply e_in_ret | apply e_in_same)))
    apply r_body; apply res2 Try.results29; exact rV_; exact rV_; intro w' hw
    exact ⟨rfl, hw.below (by simp)⟩
  refine f_enter1 Try.func29 rfl Try.ntmps29 rfl (Rep.start w) ?_
  repeat' (first | ((first | ((with_reducible apply o_call_pure (f := 37)); exact rfl) | ((with_reducible apply q_call_pure (f := 37)); exact rfl; kernel_rfl; exact rfl; (focus (repeat (first | (apply SubJ.keep; (decide +kernel)) | apply SubJ.drop | exact SubJ.nil))))); (repeat (first | exact Evs.nil | apply Evs.cons rfl)); exact (fun w hw => machine_yes hm w (h1.keep hw (by ((focus (repeat (first | exact AO.nil | apply AO.cons | (apply AO.app; assumption)))) <;> done))))) | (apply o_makeSlice (m := 0) (c := l.length); infer_instance; infer_instance; exact rfl; exact rfl; exact rfl; exact rfl; decide; omega; exact rfl; intro _) | ((with_reducible first | apply o_move | apply o_assign | apply o_faddr0 | apply o_not_d); exact rfl; exact rfl) | ((with_reducible apply gdo_load); first | refine wo_load (h := ?_) | refine wo_loadAll (h := ?_) | refine wo_loadC (h := ?_) | refine wo_ldV (h := ?_) | refine wo_ldF (h := ?_)) | ((with_reducible first | apply o_lss | apply o_gtr | apply o_neq | apply o_extract); exact rfl; exact rfl; exact rfl) | ((with_reducible apply o_not); exact rfl; exact rfl) | ((with_reducible apply o_box); exact rfl; exact rfl; exact rfl; intro _) | ((with_reducible apply o_len); infer_instance; exact rfl; exact rfl) | ((with_reducible first | apply c_seq | apply c_block | apply c_region | apply c_nil | apply c_ret | apply c_exit | apply c_unroll | apply c_skip)) | ((with_reducible apply c_cond_f); exact rfl; exact fF_) | ((with_reducible first | apply e_then | apply e_then_ret | apply e_then_exit | apply e_in | apply e_in_ret | apply e_in_same)))
  rename_i bp br
  have hlz : (List.replicate l.length [Value.int .i64 0, .int .i64 0]).flatten.length = l.length * 2 := by simp
  have h0 : OW 79 2 encStop (.slice (some ⟨br, 0, none⟩) 0 l.length) [] [⟨br, Ce (List.replicate l.length [Value.int .i64 0, .int .i64 0]).flatten 79, true⟩] :=
    OW.row (xs := []) (s := (List.replicate l.length [Value.int .i64 0, .int .i64 0]).flatten) hlz ⟨Nat.zero_le _, by simp⟩
  apply c_loop (σ := Nat × (Option Addr × Nat) × List Ent) (Fs := fun t => [(31, .int .i64 t.1), (30, .int .i64 l.length), (29, .slice a2 l.length c2), (4, .slice t.2.1.1 ((l.take t.1).map Seq.Seat.asStop).length t.2.1.2), (1, ptr bp)])
    (Ls := fun t => ⟨bp, Ce [.slice a1 caps.length c1, .slice a2 l.length c2, .slice a3 fs.length c3, .slice a4 ss.length c4] 50, true⟩ :: (t.2.2 ++ []))
    (I := fun t => t.1 ≤ l.length ∧ OW 79 2 encStop (.slice t.2.1.1 ((l.take t.1).map Seq.Seat.asStop).length t.2.1.2) ((l.take t.1).map Seq.Seat.asStop) t.2.2)
    (μ := fun t => l.length - t.1) (s0 := (0, (some ⟨br, 0, none⟩, l.length), [⟨br, Ce (List.replicate l.length [Value.int .i64 0, .int .i64 0]).flatten 79, true⟩]))
  · exact ⟨Nat.zero_le _, h0⟩
  · (repeat (first | exact FSub.nil | refine FSub.cons rfl ?_))
  · ((try dsimp only); repeat (first | exact HSub.nil rfl | (apply HSub.take; (repeat (first | exact Rem.hd | apply Rem.tl | apply Rem.right))) | exact HSub.same | (apply HSub.takeL; ((focus (repeat (first | exact RemL.hd | exact RemL.all | exact RemL.nil | apply RemL.tl | apply RemL.right))) <;> done)) | apply HSub.drop | (apply HSub.takeL; (focus ((repeat (first | exact RemL.hd | exact RemL.all | exact RemL.nil | apply RemL.tl | apply RemL.right))))) | (apply HSub.takeA; (first | exact RemL.hd | exact RemL.all); ((focus (repeat (first | exact AO.nil | apply AO.cons | (apply AO.app; assumption)))) <;> done)) | (apply HSub.dropL; assumption) | (apply HSub.takeA; (focus ((repeat (first | exact RemL.hd | exact RemL.all | exact RemL.nil | apply RemL.tl | apply RemL.right)))); ((focus (repeat (first | exact AO.nil | apply AO.cons | (apply AO.app; assumption)))) <;> done)) | (apply HSub.nilA; ((focus (repeat (first | exact AO.nil | apply AO.cons | (apply AO.app; assumption)))) <;> done))))
  rintro ⟨i, ⟨ad, cp⟩, N⟩ ⟨hi, hO⟩
  dsimp only at hi hO ⊢
  have hN := hO.own
  by_cases hlt : i < l.length
  · obtain ⟨s, hx⟩ : ∃ s, l[i]? = some s := ⟨_, List.getElem?_eq_getElem hlt⟩
    obtain ⟨b, off, cc, e, fz, rfl, hk, hp⟩ := hop2 (by omega)
    have g1 := hp.get hx
    have e1 : (l.take (i + 1)).map Seq.Seat.asStop = (l.take i).map Seq.Seat.asStop ++ [s.asStop] := by rw [take_snoc hx]; simp
    have hlen : ((l.take i).map Seq.Seat.asStop).length = i := by simp; omega
    repeat' (first | (apply o_appH (enc := encStop) (ys := [(s.asStop)]); infer_instance; infer_instance; infer_instance; exact rfl; exact encStop_len; exact encStop_one; exact rfl; exact rfl; exact rfl; assumption; (repeat (first | exact RemL.hd | exact RemL.all | exact RemL.nil | apply RemL.tl | apply RemL.right)); (exact fun w hw => SV.lit [(s.asStop)] encStop_len hw (by ((focus (repeat (first | assumption | exact At.hd | refine At.tl ?_ | (refine At.left ?_; assumption) | refine At.right ?_))) <;> done)) rfl rfl (by decide)); (first | decide | (constructor <;> (try simp only [List.length_cons, List.length_nil]) <;> omega) | (constructor <;> simp <;> omega)); intro _ _ _ _) | ((with_reducible first | apply o_move | apply o_assign | apply o_faddr0 | apply o_not_d); exact rfl; exact rfl) | ((with_reducible apply gdo_load); first | refine wo_load (h := ?_) | refine wo_loadAll (h := ?_) | refine wo_loadC (h := ?_) | refine wo_ldV (h := ?_) | refine wo_ldF (h := ?_)) | ((with_reducible first | apply o_lss | apply o_gtr | apply o_neq | apply o_extract); exact rfl; exact rfl; exact rfl) | ((with_reducible apply o_add); exact rfl; exact rfl; exact rfl; (constructor <;> omega)) | ((with_reducible apply o_alloc); exact rfl; intro _) | ((with_reducible apply gdo_store); first | refine wo_store1 (h := ?_) | refine wo_storeA (h := ?_)) | ((with_reducible apply gdo_build); first | refine wo_build (h := ?_) | refine wo_buildA (h := ?_)) | ((with_reducible apply gdo_buildSlice); refine wo_buildSlice (h := fun _ => ?_)) | ((with_reducible apply o_idx); infer_instance; infer_instance; exact rfl; exact rfl; (first | exact rfl | omega); exact rfl; (first | assumption | omega | decide)) | ((with_reducible first | apply c_seq | apply c_block | apply c_region | apply c_nil | apply c_ret | apply c_exit | apply c_unroll | apply c_skip)) | ((with_reducible apply c_cond_t); exact rfl; exact tT_) | ((with_reducible first | apply e_then | apply e_then_ret | apply e_then_exit | apply e_in | apply e_in_ret | apply e_in_same)))
    rename_i a' cp' N' hO'
    refine l_again (i + 1, (a', cp'), N') ⟨by dsimp only; omega, by dsimp only; rw [e1]; exact hO'⟩ (by dsimp only; omega) ?_ ?_
    · simp only [e1]; (repeat (first | exact FSub.nil | refine FSub.cons rfl ?_))
    · ((try dsimp only); repeat (first | exact HSub.nil rfl | (apply HSub.take; (repeat (first | exact Rem.hd | apply Rem.tl | apply Rem.right))) | exact HSub.same | (apply HSub.takeL; ((focus (repeat (first | exact RemL.hd | exact RemL.all | exact RemL.nil | apply RemL.tl | apply RemL.right))) <;> done)) | apply HSub.drop | (apply HSub.takeL; (focus ((repeat (first | exact RemL.hd | exact RemL.all | exact RemL.nil | apply RemL.tl | apply RemL.right))))) | (apply HSub.takeA; (first | exact RemL.hd | exact RemL.all); ((focus (repeat (first | exact AO.nil | apply AO.cons | (apply AO.app; assumption)))) <;> done)) | (apply HSub.dropL; assumption) | (apply HSub.takeA; (focus ((repeat (first | exact RemL.hd | exact RemL.all | exact RemL.nil | apply RemL.tl | apply RemL.right)))); ((focus (repeat (first | exact AO.nil | apply AO.cons | (apply AO.app; assumption)))) <;> done)) | (apply HSub.nilA; ((focus (repeat (first | exact AO.nil | apply AO.cons | (apply AO.app; assumption)))) <;> done))))
  rw [List.take_of_length_le (by omega)] at hO ⊢
  have hlm : (l.map Seq.Seat.asStop).length = l.length := by simp
  cases hr : Seq.wrongF [] 0 (l.map Seq.Seat.asStop) with
  | some k =>
    have e : Seq.checkF ⟨caps, l, fs, ss⟩ = (k, 281) := by unfold Seq.checkF; rw [if_neg (fun h => h hm), if_neg hbig, hr]
    rw [e]
    repeat' (first | ((first | ((with_reducible apply o_call_pure (f := 38)); exact rfl) | ((with_reducible apply q_call_pure (f := 38)); exact rfl; kernel_rfl; exact rfl; (focus (repeat (first | (apply SubJ.keep; (decide +kernel)) | apply SubJ.drop | exact SubJ.nil))))); (repeat (first | exact Evs.nil | apply Evs.cons rfl)); exact (fun w hw => wrong_some hr w (hO.sv encStop_len (by (repeat (first | exact RemL.hd | exact RemL.all | exact RemL.nil | apply RemL.tl | apply RemL.right))) hw))) | ((with_reducible first | apply o_move | apply o_assign | apply o_faddr0 | apply o_not_d); exact rfl; exact rfl) | ((with_reducible first | apply o_lss | apply o_gtr | apply o_neq | apply o_extract); exact rfl; exact rfl; exact rfl) | ((with_reducible first | apply c_seq | apply c_block | apply c_region | apply c_nil | apply c_ret | apply c_exit | apply c_unroll | apply c_skip)) | ((with_reducible apply c_cond_t); exact rfl; exact tT_) | ((with_reducible apply c_cond_f); exact rfl; exact fF_) | ((with_reducible first | apply e_then | apply e_then_ret | apply e_then_exit | apply e_in | apply e_in_ret | apply e_in_same)))
    apply r_body; apply res2 Try.results29; exact rV_; exact rV_; intro w' hw
    exact ⟨rfl, hw.below (show AO _ from by ((focus (repeat (first | exact AO.nil | apply AO.cons | (apply AO.app; assumption)))) <;> done))⟩
  | none =>
  have hroute := Seq.wrongF_none.1 hr
  cases hmi : Seq.misF caps.length none 0 l with
  | some k =>
    have e : Seq.checkF ⟨caps, l, fs, ss⟩ = (k, 282) := by unfold Seq.checkF; rw [if_neg (fun h => h hm), if_neg hbig, hr]; simp only []; rw [hmi]
    rw [e]
    repeat' (first | ((first | ((with_reducible apply o_call_pure (f := 38)); exact rfl) | ((with_reducible apply q_call_pure (f := 38)); exact rfl; kernel_rfl; exact rfl; (focus (repeat (first | (apply SubJ.keep; (decide +kernel)) | apply SubJ.drop | exact SubJ.nil))))); (repeat (first | exact Evs.nil | apply Evs.cons rfl)); exact (fun w hw => wrong_none hr w (hO.sv encStop_len (by (repeat (first | exact RemL.hd | exact RemL.all | exact RemL.nil | apply RemL.tl | apply RemL.right))) hw))) | ((first | ((with_reducible apply o_call_pure (f := 43)); exact rfl) | ((with_reducible apply q_call_pure (f := 43)); exact rfl; kernel_rfl; exact rfl; (focus (repeat (first | (apply SubJ.keep; (decide +kernel)) | apply SubJ.drop | exact SubJ.nil))))); (repeat (first | exact Evs.nil | apply Evs.cons rfl)); exact (fun w hw => mis_some (p := ⟨caps, l, fs, ss⟩) hmi w (PV.mk (h1.keep hw (by ((focus (repeat (first | exact AO.nil | apply AO.cons | (apply AO.app; assumption)))) <;> done))) (h2.keep hw (by ((focus (repeat (first | exact AO.nil | apply AO.cons | (apply AO.app; assumption)))) <;> done))) (h3.keep hw (by ((focus (repeat (first | exact AO.nil | apply AO.cons | (apply AO.app; assumption)))) <;> done))) (h4.keep hw (by ((focus (repeat (first | exact AO.nil | apply AO.cons | (apply AO.app; assumption)))) <;> done)))))) | ((with_reducible first | apply o_move | apply o_assign | apply o_faddr0 | apply o_not_d); exact rfl; exact rfl) | ((with_reducible apply gdo_load); first | refine wo_load (h := ?_) | refine wo_loadAll (h := ?_) | refine wo_loadC (h := ?_) | refine wo_ldV (h := ?_) | refine wo_ldF (h := ?_)) | ((with_reducible first | apply o_lss | apply o_gtr | apply o_neq | apply o_extract); exact rfl; exact rfl; exact rfl) | ((with_reducible first | apply c_seq | apply c_block | apply c_region | apply c_nil | apply c_ret | apply c_exit | apply c_unroll | apply c_skip)) | ((with_reducible apply c_cond_t); exact rfl; exact tT_) | ((with_reducible apply c_cond_f); exact rfl; exact fF_) | ((with_reducible first | apply e_then | apply e_then_ret | apply e_then_exit | apply e_in | apply e_in_ret | apply e_in_same)))
    apply r_body; apply res2 Try.results29; exact rV_; exact rV_; intro w' hw
    exact ⟨rfl, hw.below (show AO _ from by ((focus (repeat (first | exact AO.nil | apply AO.cons | (apply AO.app; assumption)))) <;> done))⟩
  | none =>
  have hrange : ∀ s ∈ l, (0 ≤ s.first ∧ s.first < caps.length) ∧ (0 ≤ s.second ∧ s.second < caps.length) ∧ (0 ≤ s.vol ∧ s.vol ≤ 10000) := fun s hs => by
    have g1 := Seq.misF_range hmi s hs
    have g2 := hroute.1 s.asStop (List.mem_map.2 ⟨s, hs, rfl⟩)
    unfold Seq.Stop.ok Seq.Seat.asStop at g2
    simp only [] at g2
    exact ⟨g1.1, g1.2, by omega⟩
  by_cases hln : fs.length ≠ caps.length ∨ ss.length ≠ caps.length
  · have e : Seq.checkF ⟨caps, l, fs, ss⟩ = (0, 283) := by unfold Seq.checkF; rw [if_neg (fun h => h hm), if_neg hbig, hr]; simp only []; rw [hmi]; simp only []; rw [if_pos hln]
    rw [e]
    repeat' (first | ((first | ((with_reducible apply o_call_pure (f := 38)); exact rfl) | ((with_reducible apply q_call_pure (f := 38)); exact rfl; kernel_rfl; exact rfl; (focus (repeat (first | (apply SubJ.keep; (decide +kernel)) | apply SubJ.drop | exact SubJ.nil))))); (repeat (first | exact Evs.nil | apply Evs.cons rfl)); exact (fun w hw => wrong_none hr w (hO.sv encStop_len (by (repeat (first | exact RemL.hd | exact RemL.all | exact RemL.nil | apply RemL.tl | apply RemL.right))) hw))) | ((first | ((with_reducible apply o_call_pure (f := 43)); exact rfl) | ((with_reducible apply q_call_pure (f := 43)); exact rfl; kernel_rfl; exact rfl; (focus (repeat (first | (apply SubJ.keep; (decide +kernel)) | apply SubJ.drop | exact SubJ.nil))))); (repeat (first | exact Evs.nil | apply Evs.cons rfl)); exact (fun w hw => mis_none (p := ⟨caps, l, fs, ss⟩) hmi w (PV.mk (h1.keep hw (by ((focus (repeat (first | exact AO.nil | apply AO.cons | (apply AO.app; assumption)))) <;> done))) (h2.keep hw (by ((focus (repeat (first | exact AO.nil | apply AO.cons | (apply AO.app; assumption)))) <;> done))) (h3.keep hw (by ((focus (repeat (first | exact AO.nil | apply AO.cons | (apply AO.app; assumption)))) <;> done))) (h4.keep hw (by ((focus (repeat (first | exact AO.nil | apply AO.cons | (apply AO.app; assumption)))) <;> done)))))) | ((with_reducible first | apply o_move | apply o_assign | apply o_faddr0 | apply o_not_d); exact rfl; exact rfl) | ((with_reducible apply gdo_load); first | refine wo_load (h := ?_) | refine wo_loadAll (h := ?_) | refine wo_loadC (h := ?_) | refine wo_ldV (h := ?_) | refine wo_ldF (h := ?_)) | ((with_reducible first | apply o_lss | apply o_gtr | apply o_neq | apply o_extract); exact rfl; exact rfl; exact rfl) | ((with_reducible apply o_pick_t); exact rfl; exact tT_; exact rfl; exact rfl) | ((with_reducible apply o_pick_f); exact rfl; exact fF_; exact rfl; exact rfl) | ((with_reducible apply o_len); infer_instance; exact rfl; exact rfl) | ((with_reducible first | apply g_run | apply g_skip_none); exact rfl; exact gG_) | ((with_reducible apply g_skip); exact rfl; exact gG_; exact rfl) | ((with_reducible first | apply c_seq | apply c_block | apply c_region | apply c_nil | apply c_ret | apply c_exit | apply c_unroll | apply c_skip)) | ((with_reducible apply c_cond_t); exact rfl; exact tT_) | ((with_reducible apply c_cond_f); exact rfl; exact fF_) | ((with_reducible first | apply e_then | apply e_then_ret | apply e_then_exit | apply e_in | apply e_in_ret | apply e_in_same)) | ((with_reducible apply g_split_d); exact rfl; intro hcond; rotate_left; intro hcond; rotate_left))
    all_goals first
      | (exfalso; omega)
      | (apply r_body; apply res2 Try.results29; exact rV_; exact rV_; intro w' hw; exact ⟨rfl, hw.below (show AO _ from by ((focus (repeat (first | exact AO.nil | apply AO.cons | (apply AO.app; assumption)))) <;> done))⟩)
  have hf : fs.length = caps.length := by omega
  have hs : ss.length = caps.length := by omega
  have e0 : Seq.checkF ⟨caps, l, fs, ss⟩ = match Seq.diffF 0 fs ss (Seq.loadsF Seq.Seat.first caps.length l) (Seq.loadsF Seq.Seat.second caps.length l) with
      | some i => (i, 283)
      | none => match Seq.overF 0 caps (Seq.loadsF Seq.Seat.first caps.length l) (Seq.loadsF Seq.Seat.second caps.length l) with
        | some i => (i, 4)
        | none => (0, 0) := by unfold Seq.checkF; rw [if_neg (fun h => h hm), if_neg hbig, hr]; simp only []; rw [hmi]; simp only []; rw [if_neg hln]; rfl
  repeat' (first | ((first | ((with_reducible apply o_call_pure (f := 38)); exact rfl) | ((with_reducible apply q_call_pure (f := 38)); exact rfl; kernel_rfl; exact rfl; (focus (repeat (first | (apply SubJ.keep; (decide +kernel)) | apply SubJ.drop | exact SubJ.nil))))); (repeat (first | exact Evs.nil | apply Evs.cons rfl)); exact (fun w hw => wrong_none hr w (hO.sv encStop_len (by (repeat (first | exact RemL.hd | exact RemL.all | exact RemL.nil | apply RemL.tl | apply RemL.right))) hw))) | ((first | ((with_reducible apply o_call_pure (f := 43)); exact rfl) | ((with_reducible apply q_call_pure (f := 43)); exact rfl; kernel_rfl; exact rfl; (focus (repeat (first | (apply SubJ.keep; (decide +kernel)) | apply SubJ.drop | exact SubJ.nil))))); (repeat (first | exact Evs.nil | apply Evs.cons rfl)); exact (fun w hw => mis_none (p := ⟨caps, l, fs, ss⟩) hmi w (PV.mk (h1.keep hw (by ((focus (repeat (first | exact AO.nil | apply AO.cons | (apply AO.app; assumption)))) <;> done))) (h2.keep hw (by ((focus (repeat (first | exact AO.nil | apply AO.cons | (apply AO.app; assumption)))) <;> done))) (h3.keep hw (by ((focus (repeat (first | exact AO.nil | apply AO.cons | (apply AO.app; assumption)))) <;> done))) (h4.keep hw (by ((focus (repeat (first | exact AO.nil | apply AO.cons | (apply AO.app; assumption)))) <;> done)))))) | ((first | ((with_reducible apply o_call_new (f := 39)); exact rfl) | ((with_reducible apply q_call_new (f := 39)); exact rfl; exact rfl; (focus (repeat (first | (apply SubJ.keep; (decide +kernel)) | apply SubJ.drop | exact SubJ.nil))))); (repeat (first | exact Evs.nil | apply Evs.cons rfl)); exact (fun w hw => loads_calls (n := caps.length) w (h2.keep hw (by ((focus (repeat (first | exact AO.nil | apply AO.cons | (apply AO.app; assumption)))) <;> done))) (by omega) (by omega) hrange); rintro v1 N1 ⟨x1, k1, x2, k2, M1, M2, rfl, g1, g2, rfl, o1, o2⟩ <;> (try simp only [List.cons_append, List.nil_append, List.append_assoc])) | ((with_reducible first | apply o_move | apply o_assign | apply o_faddr0 | apply o_not_d); exact rfl; exact rfl) | ((with_reducible apply gdo_load); first | refine wo_load (h := ?_) | refine wo_loadAll (h := ?_) | refine wo_loadC (h := ?_) | refine wo_ldV (h := ?_) | refine wo_ldF (h := ?_)) | ((with_reducible first | apply o_lss | apply o_gtr | apply o_neq | apply o_extract); exact rfl; exact rfl; exact rfl) | ((with_reducible apply o_pick_f); exact rfl; exact fF_; exact rfl; exact rfl) | ((with_reducible apply o_len); infer_instance; exact rfl; exact rfl) | ((with_reducible first | apply g_run | apply g_skip_none); exact rfl; exact gG_) | ((with_reducible first | apply c_seq | apply c_block | apply c_region | apply c_nil | apply c_ret | apply c_exit | apply c_unroll | apply c_skip)) | ((with_reducible apply c_cond_f); exact rfl; exact fF_) | ((with_reducible first | apply e_then | apply e_then_ret | apply e_then_exit | apply e_in | apply e_in_ret | apply e_in_same)))
  have n1 := Seq.loadsF_len Seq.Seat.first caps.length l
  have n2 := Seq.loadsF_len Seq.Seat.second caps.length l
  generalize Seq.loadsF Seq.Seat.first caps.length l = L1 at e0 g1 n1
  generalize Seq.loadsF Seq.Seat.second caps.length l = L2 at e0 g2 n2
  obtain ⟨_, _, e5, hc5, hop5⟩ := g1.open
  rw [n1] at e5
  cases e5
  obtain ⟨bl1, sl1, rfl, rfl, hk1⟩ := hop5 (by omega)
  obtain ⟨_, _, e6, hc6, hop6⟩ := g2.open
  rw [n2] at e6
  cases e6
  obtain ⟨bl2, sl2, rfl, rfl, hk2⟩ := hop6 (by omega)
  simp only [List.cons_append, List.nil_append]
  obtain ⟨b3, o3, cc3, e3, fz3, rfl, hk3, hp3⟩ := hop3 (by omega)
  obtain ⟨b4, o4, cc4, e4, fz4, rfl, hk4, hp4⟩ := hop4 (by omega)
  apply c_loop (σ := Nat) (Fs := fun i => [(86, .int .i64 i), (85, .int .i64 caps.length), (11, .slice (some ⟨bl1, 0, none⟩) caps.length k1), (12, .slice (some ⟨bl2, 0, none⟩) caps.length k2), (1, ptr bp)])
    (Ls := fun i => ⟨bl1, Ce (L1.flatMap encI ++ sl1) 3, true⟩ :: ⟨bl2, Ce (L2.flatMap encI ++ sl2) 3, true⟩ :: ⟨bp, Ce [.slice a1 caps.length c1, .slice a2 l.length c2, .slice (some ⟨b3, o3, none⟩) fs.length c3, .slice (some ⟨b4, o4, none⟩) ss.length c4] 50, true⟩ :: (N ++ []))
    (I := fun i => i ≤ caps.length ∧ Seq.diffF 0 fs ss L1 L2 = Seq.diffF i (fs.drop i) (ss.drop i) (L1.drop i) (L2.drop i)) (μ := fun i => caps.length - i) (s0 := 0)
  · exact ⟨Nat.zero_le _, by simp⟩
  · (repeat (first | exact FSub.nil | refine FSub.cons rfl ?_))
  · ((try dsimp only); repeat (first | exact HSub.nil rfl | (apply HSub.take; (repeat (first | exact Rem.hd | apply Rem.tl | apply Rem.right))) | exact HSub.same | (apply HSub.takeL; ((focus (repeat (first | exact RemL.hd | exact RemL.all | exact RemL.nil | apply RemL.tl | apply RemL.right))) <;> done)) | apply HSub.drop | (apply HSub.takeL; (focus ((repeat (first | exact RemL.hd | exact RemL.all | exact RemL.nil | apply RemL.tl | apply RemL.right))))) | (apply HSub.takeA; (first | exact RemL.hd | exact RemL.all); ((focus (repeat (first | exact AO.nil | apply AO.cons | (apply AO.app; assumption)))) <;> done)) | (apply HSub.dropL; assumption) | (apply HSub.takeA; (focus ((repeat (first | exact RemL.hd | exact RemL.all | exact RemL.nil | apply RemL.tl | apply RemL.right)))); ((focus (repeat (first | exact AO.nil | apply AO.cons | (apply AO.app; assumption)))) <;> done)) | (apply HSub.nilA; ((focus (repeat (first | exact AO.nil | apply AO.cons | (apply AO.app; assumption)))) <;> done))))
  rintro j ⟨hj, hdiff⟩
  by_cases hlt2 : j < caps.length
  · obtain ⟨x1, hx1⟩ : ∃ x, fs[j]? = some x := ⟨_, List.getElem?_eq_getElem (by omega)⟩
    obtain ⟨x2, hx2⟩ : ∃ x, ss[j]? = some x := ⟨_, List.getElem?_eq_getElem (by omega)⟩
    obtain ⟨y1, hy1⟩ : ∃ x, L1[j]? = some x := ⟨_, List.getElem?_eq_getElem (by omega)⟩
    obtain ⟨y2, hy2⟩ : ∃ x, L2[j]? = some x := ⟨_, List.getElem?_eq_getElem (by omega)⟩
    have q1 := hp3.one hx1 rfl
    have q2 := hp4.one hx2 rfl
    have q3 := (Pat.flat encI_len L1 sl1).one hy1 rfl
    have q4 := (Pat.flat encI_len L2 sl2).one hy2 rfl
    rw [drop_at hx1, drop_at hx2, drop_at hy1, drop_at hy2, Seq.diffF] at hdiff
    by_cases hne : x1 ≠ y1 ∨ x2 ≠ y2
    · rw [if_pos hne] at hdiff
      rw [hdiff] at e0
      simp only [] at e0
      rw [e0]
      repeat' (first | ((with_reducible first | apply o_move | apply o_assign | apply o_faddr0 | apply o_not_d); exact rfl; exact rfl) | ((with_reducible first | apply o_lss | apply o_gtr | apply o_neq | apply o_extract); exact rfl; exact rfl; exact rfl) | ((with_reducible first | apply c_seq | apply c_block | apply c_region | apply c_nil | apply c_ret | apply c_exit | apply c_unroll | apply c_skip)) | ((with_reducible apply c_cond_t); exact rfl; exact tT_) | ((with_reducible first | apply e_then | apply e_then_ret | apply e_then_exit | apply e_in | apply e_in_ret | apply e_in_same)) | ((with_reducible apply c_regionD0 (id := 23) []); kernel_rfl; kernel_rfl) | ((with_reducible apply q_nil); try simp only [ents, List.cons_append, List.nil_append]) | ((with_reducible first | apply q_move | apply q_assign | apply q_faddr0 | apply q_not_d); exact rfl; exact rfl) | ((with_reducible apply gdq_load); first | refine wq_load (h := ?_) | refine wq_loadAll (h := ?_) | refine wq_loadC (h := ?_) | refine wq_ldV (h := ?_) | refine wq_ldF (h := ?_)) | ((with_reducible first | apply q_lss | apply q_gtr | apply q_neq | apply q_extract); exact rfl; exact rfl; exact rfl) | ((with_reducible apply q_pick_t); exact rfl; exact tT_; exact rfl; exact rfl) | ((with_reducible apply q_pick_f); exact rfl; exact fF_; exact rfl; exact rfl) | ((with_reducible apply q_idx); infer_instance; infer_instance; exact rfl; exact rfl; (first | exact rfl | omega); exact rfl; (first | assumption | omega | decide)) | ((with_reducible first | apply h_run | apply h_skip_none); exact rfl; exact gG_) | ((with_reducible apply h_skip); exact rfl; exact gG_; exact rfl) | ((with_reducible apply h_split_d); exact rfl; intro hcond; rotate_left; intro hcond; rotate_left))
      all_goals first
        | (exfalso; omega)
        | (apply r_body; apply res2 Try.results29; exact rV_; exact rV_; intro w' hw; exact ⟨rfl, hw.below (show AO _ from by ((focus (repeat (first | exact AO.nil | apply AO.cons | (apply AO.app; assumption)))) <;> done))⟩)
    · rw [if_neg hne] at hdiff
      repeat' (first | ((with_reducible first | apply o_move | apply o_assign | apply o_faddr0 | apply o_not_d); exact rfl; exact rfl) | ((with_reducible first | apply o_lss | apply o_gtr | apply o_neq | apply o_extract); exact rfl; exact rfl; exact rfl) | ((with_reducible apply o_add); exact rfl; exact rfl; exact rfl; (constructor <;> omega)) | ((with_reducible first | apply c_seq | apply c_block | apply c_region | apply c_nil | apply c_ret | apply c_exit | apply c_unroll | apply c_skip)) | ((with_reducible apply c_cond_t); exact rfl; exact tT_) | ((with_reducible apply c_cond_f); exact rfl; exact fF_) | ((with_reducible first | apply e_then | apply e_then_ret | apply e_then_exit | apply e_in | apply e_in_ret | apply e_in_same)) | ((with_reducible apply c_regionD0 (id := 23) []); kernel_rfl; kernel_rfl) | ((with_reducible apply q_nil); try simp only [ents, List.cons_append, List.nil_append]) | ((with_reducible first | apply q_move | apply q_assign | apply q_faddr0 | apply q_not_d); exact rfl; exact rfl) | ((with_reducible apply gdq_load); first | refine wq_load (h := ?_) | refine wq_loadAll (h := ?_) | refine wq_loadC (h := ?_) | refine wq_ldV (h := ?_) | refine wq_ldF (h := ?_)) | ((with_reducible first | apply q_lss | apply q_gtr | apply q_neq | apply q_extract); exact rfl; exact rfl; exact rfl) | ((with_reducible apply q_pick_f); exact rfl; exact fF_; exact rfl; exact rfl) | ((with_reducible apply q_idx); infer_instance; infer_instance; exact rfl; exact rfl; (first | exact rfl | omega); exact rfl; (first | assumption | omega | decide)) | ((with_reducible first | apply h_run | apply h_skip_none); exact rfl; exact gG_))
      all_goals first
        | (exfalso; omega)
        | (refine l_again (j + 1) ⟨by omega, hdiff⟩ (by omega) ?_ ?_
           · (repeat (first | exact FSub.nil | refine FSub.cons rfl ?_))
           · ((try dsimp only); repeat (first | exact HSub.nil rfl | (apply HSub.take; (repeat (first | exact Rem.hd | apply Rem.tl | apply Rem.right))) | exact HSub.same | (apply HSub.takeL; ((focus (repeat (first | exact RemL.hd | exact RemL.all | exact RemL.nil | apply RemL.tl | apply RemL.right))) <;> done)) | apply HSub.drop | (apply HSub.takeL; (focus ((repeat (first | exact RemL.hd | exact RemL.all | exact RemL.nil | apply RemL.tl | apply RemL.right))))) | (apply HSub.takeA; (first | exact RemL.hd | exact RemL.all); ((focus (repeat (first | exact AO.nil | apply AO.cons | (apply AO.app; assumption)))) <;> done)) | (apply HSub.dropL; assumption) | (apply HSub.takeA; (focus ((repeat (first | exact RemL.hd | exact RemL.all | exact RemL.nil | apply RemL.tl | apply RemL.right)))); ((focus (repeat (first | exact AO.nil | apply AO.cons | (apply AO.app; assumption)))) <;> done)) | (apply HSub.nilA; ((focus (repeat (first | exact AO.nil | apply AO.cons | (apply AO.app; assumption)))) <;> done)))))
  have hz : Seq.diffF j [] (ss.drop j) (L1.drop j) (L2.drop j) = none := by simp [Seq.diffF]
  rw [List.drop_of_length_le (l := fs) (by omega), hz] at hdiff
  rw [hdiff] at e0
  simp only [] at e0
  cases hov : Seq.overF 0 caps L1 L2 with
  | some k =>
    rw [hov] at e0
    simp only [] at e0
    rw [e0]
    repeat' (first | ((first | ((with_reducible apply o_call_pure (f := 42)); exact rfl) | ((with_reducible apply q_call_pure (f := 42)); exact rfl; kernel_rfl; exact rfl; (focus (repeat (first | (apply SubJ.keep; (decide +kernel)) | apply SubJ.drop | exact SubJ.nil))))); (repeat (first | exact Evs.nil | apply Evs.cons rfl)); exact (fun w hw => over_some hov w (h1.keep hw (by ((focus (repeat (first | exact AO.nil | apply AO.cons | (apply AO.app; assumption)))) <;> done))) (g1.sv encI_len (by (repeat (first | exact RemL.hd | exact RemL.all | exact RemL.nil | apply RemL.tl | apply RemL.right))) hw) (g2.sv encI_len (by (repeat (first | exact RemL.hd | exact RemL.all | exact RemL.nil | apply RemL.tl | apply RemL.right))) hw) n1 n2)) | ((with_reducible first | apply o_move | apply o_assign | apply o_faddr0 | apply o_not_d); exact rfl; exact rfl) | ((with_reducible apply gdo_load); first | refine wo_load (h := ?_) | refine wo_loadAll (h := ?_) | refine wo_loadC (h := ?_) | refine wo_ldV (h := ?_) | refine wo_ldF (h := ?_)) | ((with_reducible first | apply o_lss | apply o_gtr | apply o_neq | apply o_extract); exact rfl; exact rfl; exact rfl) | ((with_reducible first | apply c_seq | apply c_block | apply c_region | apply c_nil | apply c_ret | apply c_exit | apply c_unroll | apply c_skip)) | ((with_reducible apply c_cond_t); exact rfl; exact tT_) | ((with_reducible apply c_cond_f); exact rfl; exact fF_) | ((with_reducible first | apply e_then | apply e_then_ret | apply e_then_exit | apply e_in | apply e_in_ret | apply e_in_same)))
    apply r_body; apply res2 Try.results29; exact rV_; exact rV_; intro w' hw
    exact ⟨rfl, hw.below (show AO _ from by ((focus (repeat (first | exact AO.nil | apply AO.cons | (apply AO.app; assumption)))) <;> done))⟩
  | none =>
    rw [hov] at e0
    simp only [] at e0
    rw [e0]
    repeat' (first | ((first | ((with_reducible apply o_call_pure (f := 42)); exact rfl) | ((with_reducible apply q_call_pure (f := 42)); exact rfl; kernel_rfl; exact rfl; (focus (repeat (first | (apply SubJ.keep; (decide +kernel)) | apply SubJ.drop | exact SubJ.nil))))); (repeat (first | exact Evs.nil | apply Evs.cons rfl)); exact (fun w hw => over_none hov w (h1.keep hw (by ((focus (repeat (first | exact AO.nil | apply AO.cons | (apply AO.app; assumption)))) <;> done))) (g1.sv encI_len (by (repeat (first | exact RemL.hd | exact RemL.all | exact RemL.nil | apply RemL.tl | apply RemL.right))) hw) (g2.sv encI_len (by (repeat (first | exact RemL.hd | exact RemL.all | exact RemL.nil | apply RemL.tl | apply RemL.right))) hw) n1 n2)) | ((with_reducible first | apply o_move | apply o_assign | apply o_faddr0 | apply o_not_d); exact rfl; exact rfl) | ((with_reducible apply gdo_load); first | refine wo_load (h := ?_) | refine wo_loadAll (h := ?_) | refine wo_loadC (h := ?_) | refine wo_ldV (h := ?_) | refine wo_ldF (h := ?_)) | ((with_reducible first | apply o_lss | apply o_gtr | apply o_neq | apply o_extract); exact rfl; exact rfl; exact rfl) | ((with_reducible first | apply c_seq | apply c_block | apply c_region | apply c_nil | apply c_ret | apply c_exit | apply c_unroll | apply c_skip)) | ((with_reducible apply c_cond_f); exact rfl; exact fF_) | ((with_reducible first | apply e_then | apply e_then_ret | apply e_then_exit | apply e_in | apply e_in_ret | apply e_in_same)))
    apply r_body; apply res2 Try.results29; exact rV_; exact rV_; intro w' hw
    exact ⟨rfl, hw.below (show AO _ from by ((focus (repeat (first | exact AO.nil | apply AO.cons | (apply AO.app; assumption)))) <;> done))⟩
def findV : Option Seq.Seat → Value
  | some s => .tuple #[.agg #[.int .i64 s.stop, .int .i64 s.vol, .int .i64 s.first, .int .i64 s.second], .bool true]
  | none => .tuple #[.agg #[.int .i64 0, .int .i64 0, .int .i64 0, .int .i64 0], .bool false]
end Go.Proofs.Ytlahifpnncekgaa
