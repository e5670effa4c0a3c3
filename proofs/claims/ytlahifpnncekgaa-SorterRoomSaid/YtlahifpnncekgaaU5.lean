/-
  A part of the proofs of this seat: what some of the program's functions compute, shown by walks through their code. Conditions: the hypotheses that each theorem names. (Its blocks of tactics were laid by a small program.)
-/
import Derived.Test.YtlahifpnncekgaaU4
import Derived.Test.YtlahifpnncekgaaQJ
set_option linter.unusedSimpArgs false
set_option linter.unusedVariables false
namespace Go.Proofs.Ytlahifpnncekgaa
open Go Go.Sx Go.RowKit
attribute [local irreducible] WL WC WQ WR St Exit.then Exit.inBlock Exit.noGoto bodyPost roundPost beginK YR RG BM Calls B AgainD MeetD
/-! ## the results, taken apart -/
def runψ (m : Srt.M) (k : Int) (v : Value) (N : List Ent) : Prop := ∃ a1 c1 a2 c2 a3 c3 a4 c4 a5 c5 ss N1 M1 N2 N3 N4 N5, v = .tuple #[.agg #[.slice a1 m.stackers.length c1, .slice a2 m.swept.length c2, .slice a3 m.over.length c3, .slice a4 m.rej.length c4, .slice a5 m.evs.length c5], .int .i64 k] ∧
  OW 23 1 encS (.slice a1 m.stackers.length c1) ss N1 ∧ LL 3 1 encI ss m.stackers M1 ∧ OW 3 1 encI (.slice a2 m.swept.length c2) m.swept N2 ∧ OW 3 1 encI (.slice a3 m.over.length c3) m.over N3 ∧ OW 3 1 encI (.slice a4 m.rej.length c4) m.rej N4 ∧ OW 43 3 encE (.slice a5 m.evs.length c5) m.evs N5 ∧
  N = N1 ++ (M1 ++ (N2 ++ (N3 ++ (N4 ++ N5)))) ∧ (∀ x ∈ N1, x.own = true) ∧ (∀ x ∈ M1, x.own = true) ∧ (∀ x ∈ N2, x.own = true) ∧ (∀ x ∈ N3, x.own = true) ∧ (∀ x ∈ N4, x.own = true) ∧ ∀ x ∈ N5, x.own = true
theorem run_calls' {cv fv : Value} {caps : List Int} {s k : Int} {l : List Srt.Fd} {m : Srt.M} (he : Srt.runF caps s l = (m, k)) (w : World) (h : SV w 1 encI cv caps) (hl : SV w 2 encF fv l) : Calls Try.prog 12 #[cv, .int .i64 s, fv] w fun e w' => ∃ v N, e = .returned v ∧ runψ m k v N ∧ Rep w w' N ∧ ∀ x ∈ N, x.own = true :=
  (run_calls w h hl).mono fun e w' ⟨v, N, h1, h2, h3, h4⟩ => by
    rw [he] at h2
    obtain ⟨pv, rfl, ⟨a1, c1, a2, c2, a3, c3, a4, c4, a5, c5, ss, N1, M1, N2, N3, N4, N5, rfl, g1, g2, g3, g4, g5, g6, rfl⟩, _⟩ := h2
    exact ⟨_, _, h1, ⟨a1, c1, a2, c2, a3, c3, a4, c4, a5, c5, ss, N1, M1, N2, N3, N4, N5, rfl, g1, g2, g3, g4, g5, g6, rfl, g1.own, g2.own, g3.own, g4.own, g5.own, g6.own⟩, h3, h4⟩
theorem need_calls' {cv fv : Value} {caps : List Int} {s k : Int} {l : List Srt.Fd} (he : Srt.needF caps l = (s, k)) (w : World) (h : SV w 1 encI cv caps) (hl : SV w 2 encF fv l) : Calls Try.prog 16 #[cv, fv] w fun e w' => e = .returned (.tuple #[.int .i64 s, .int .i64 k]) ∧ Below w.heap.size w w' := by
  have := need_calls w h hl; rw [he] at this; exact this
def twoψ (m1 m2 : Srt.M) (o : List Int) (v : Value) (N : List Ent) : Prop := ∃ x1 y1 x2 y2 x3 y3 x4 y4 x5 y5 z1 t1 z2 t2 z3 t3 z4 t4 z5 t5 ao co ss tt N1 M1 N2 N3 N4 N5 P1 O1 P2 P3 P4 P5 NO,
  v = .tuple #[.agg #[.slice x1 m1.stackers.length y1, .slice x2 m1.swept.length y2, .slice x3 m1.over.length y3, .slice x4 m1.rej.length y4, .slice x5 m1.evs.length y5, .slice z1 m2.stackers.length t1, .slice z2 m2.swept.length t2, .slice z3 m2.over.length t3, .slice z4 m2.rej.length t4, .slice z5 m2.evs.length t5, .slice ao o.length co], .int .i64 0] ∧
  OW 23 1 encS (.slice x1 m1.stackers.length y1) ss N1 ∧ LL 3 1 encI ss m1.stackers M1 ∧ OW 3 1 encI (.slice x2 m1.swept.length y2) m1.swept N2 ∧ OW 3 1 encI (.slice x3 m1.over.length y3) m1.over N3 ∧ OW 3 1 encI (.slice x4 m1.rej.length y4) m1.rej N4 ∧ OW 43 3 encE (.slice x5 m1.evs.length y5) m1.evs N5 ∧
  OW 23 1 encS (.slice z1 m2.stackers.length t1) tt P1 ∧ LL 3 1 encI tt m2.stackers O1 ∧ OW 3 1 encI (.slice z2 m2.swept.length t2) m2.swept P2 ∧ OW 3 1 encI (.slice z3 m2.over.length t3) m2.over P3 ∧ OW 3 1 encI (.slice z4 m2.rej.length t4) m2.rej P4 ∧ OW 43 3 encE (.slice z5 m2.evs.length t5) m2.evs P5 ∧
  OW 3 1 encI (.slice ao o.length co) o NO ∧ N = N1 ++ (M1 ++ (N2 ++ (N3 ++ (N4 ++ (N5 ++ (P1 ++ (O1 ++ (P2 ++ (P3 ++ (P4 ++ (P5 ++ NO))))))))))) ∧
  (∀ x ∈ N1, x.own = true) ∧ (∀ x ∈ M1, x.own = true) ∧ (∀ x ∈ N2, x.own = true) ∧ (∀ x ∈ N3, x.own = true) ∧ (∀ x ∈ N4, x.own = true) ∧ (∀ x ∈ N5, x.own = true) ∧ (∀ x ∈ P1, x.own = true) ∧ (∀ x ∈ O1, x.own = true) ∧ (∀ x ∈ P2, x.own = true) ∧ (∀ x ∈ P3, x.own = true) ∧ (∀ x ∈ P4, x.own = true) ∧ (∀ x ∈ P5, x.own = true) ∧ ∀ x ∈ NO, x.own = true
theorem two_calls' {pv iv : Value} {p : Seq.Plan} {s : Int} {items : List Srt.It} (he : Srt.twoE p s items = 0) (w : World) (hp : PV w pv p) (hi : SV w 4 encIt iv items) : Calls Try.prog 18 #[pv, .int .i64 s, iv] w fun e w' => ∃ v N, e = .returned v ∧ twoψ (Srt.pass1 p s items) (Srt.pass2 p s items) (Srt.orderF p s items) v N ∧ Rep w w' N ∧ ∀ x ∈ N, x.own = true :=
  (two_calls w hp hi).mono fun e w' ⟨v, N, h1, h2, h3, h4⟩ => by
    rcases h2 with ⟨h, _⟩ | ⟨_, bv, rfl, hb⟩
    · exact absurd he h
    · obtain ⟨x1, y1, x2, y2, x3, y3, x4, y4, x5, y5, z1, t1, z2, t2, z3, t3, z4, t4, z5, t5, ao, co, ss, tt, N1, M1, N2, N3, N4, N5, P1, O1, P2, P3, P4, P5, NO, rfl, g1, g2, g3, g4, g5, g6, k1, k2, k3, k4, k5, k6, k7, rfl⟩ := hb
      exact ⟨_, _, h1, ⟨x1, y1, x2, y2, x3, y3, x4, y4, x5, y5, z1, t1, z2, t2, z3, t3, z4, t4, z5, t5, ao, co, ss, tt, N1, M1, N2, N3, N4, N5, P1, O1, P2, P3, P4, P5, NO, rfl, g1, g2, g3, g4, g5, g6, k1, k2, k3, k4, k5, k6, k7, rfl, g1.own, g2.own, g3.own, g4.own, g5.own, g6.own, k1.own, k2.own, k3.own, k4.own, k5.own, k6.own, k7.own⟩, h3, h4⟩
theorem two_bad {pv iv : Value} {p : Seq.Plan} {s k : Int} {items : List Srt.It} (he : Srt.twoE p s items = k) (hk : k ≠ 0) (w : World) (hp : PV w pv p) (hi : SV w 4 encIt iv items) : Calls Try.prog 18 #[pv, .int .i64 s, iv] w fun e w' => e = .returned (.tuple #[.agg ([.slice none 0 0, .slice none 0 0, .slice none 0 0, .slice none 0 0, .slice none 0 0, .slice none 0 0, .slice none 0 0, .slice none 0 0, .slice none 0 0, .slice none 0 0, .slice none 0 0] : List Value).toArray, .int .i64 k]) ∧ Below w.heap.size w w' :=
  (two_calls w hp hi).mono fun e w' ⟨v, N, h1, h2, h3, h4⟩ => by
    rcases h2 with ⟨_, rfl, rfl⟩ | ⟨h, _⟩
    · rw [he] at h1; exact ⟨h1, h3.below (by simp)⟩
    · exact absurd (he.symm.trans h) hk
set_option maxHeartbeats 4000000 in
theorem lists_yes {va vb : Value} {ss tt : List SD} {xss yss : List (List Int)} (he : xss = yss) (w : World) (ha : SV w 1 encS va ss) (hal : SL w 1 encI ss xss) (hb : SV w 1 encS vb tt) (hbl : SL w 1 encI tt yss) : Calls Try.prog 20 #[va, vb] w fun e w' => e = .returned (.bool true) ∧ Below w.heap.size w w' := by
  subst he
  obtain ⟨a1, c1, rfl, hc1, hop1⟩ := ha.open
  obtain ⟨a2, c2, rfl, hc2, hop2⟩ := hb.open
  have hl1 := hal.1
  have hl2 := hbl.1
  refine f_enter2 Try.func20 rfl Try.ntmps20 rfl (Rep.start w) ?_
  repeat' (first | ((with_reducible first | apply o_move | apply o_assign | apply o_not_d); exact rfl; exact rfl) | ((with_reducible first | apply o_lss | apply o_neq); exact rfl; exact rfl; exact rfl) | ((with_reducible apply o_len); infer_instance; exact rfl; exact rfl) | ((with_reducible first | apply c_seq | apply c_block | apply c_region | apply c_nil | apply c_ret | apply c_exit | apply c_unroll | apply c_skip)) | ((with_reducible apply c_cond_f); exact rfl; exact fF_) | ((with_reducible first | apply e_then | apply e_then_ret | apply e_then_exit | apply e_in | apply e_in_ret | apply e_in_same)))
  all_goals try (exfalso; omega)
  apply c_loop (σ := Nat) (Fs := fun i => [(5, .int .i64 i), (0, .slice a1 ss.length c1), (1, .slice a2 tt.length c2)])
    (Ls := fun i => []) (I := fun i => i ≤ ss.length) (μ := fun i => ss.length - i) (s0 := 0)
  · exact Nat.zero_le _
  · (repeat (first | exact FSub.nil | refine FSub.cons rfl ?_))
  · ((try dsimp only); repeat (first | exact HSub.nil rfl | (apply HSub.take; (repeat (first | exact Rem.hd | apply Rem.tl | apply Rem.right))) | exact HSub.same | (apply HSub.takeL; ((focus (repeat (first | exact RemL.hd | exact RemL.all | exact RemL.nil | apply RemL.tl | apply RemL.right))) <;> done)) | apply HSub.drop | (apply HSub.takeL; (focus ((repeat (first | exact RemL.hd | exact RemL.all | exact RemL.nil | apply RemL.tl | apply RemL.right))))) | (apply HSub.takeA; (first | exact RemL.hd | exact RemL.all); ((focus (repeat (first | exact AO.nil | apply AO.cons | (apply AO.app; assumption)))) <;> done)) | (apply HSub.dropL; assumption) | (apply HSub.takeA; (focus ((repeat (first | exact RemL.hd | exact RemL.all | exact RemL.nil | apply RemL.tl | apply RemL.right)))); ((focus (repeat (first | exact AO.nil | apply AO.cons | (apply AO.app; assumption)))) <;> done)) | (apply HSub.nilA; ((focus (repeat (first | exact AO.nil | apply AO.cons | (apply AO.app; assumption)))) <;> done))))
  intro i hi
  have hi : i ≤ ss.length := hi
  by_cases hlt : i < ss.length
  · obtain ⟨⟨sa, sn, sc⟩, hx⟩ : ∃ s, ss[i]? = some s := ⟨_, List.getElem?_eq_getElem hlt⟩
    obtain ⟨⟨ta, tn, tc⟩, hy⟩ : ∃ s, tt[i]? = some s := ⟨_, List.getElem?_eq_getElem (by omega)⟩
    obtain ⟨xs, hz⟩ : ∃ s, xss[i]? = some s := ⟨_, List.getElem?_eq_getElem (by omega)⟩
    obtain ⟨b, off, cc, e, fz, rfl, hk, hp⟩ := hop1 (by omega)
    obtain ⟨b', off', cc', e', fz', rfl, hk', hp'⟩ := hop2 (by omega)
    have q1 := hp.one hx rfl
    have q2 := hp'.one hy rfl
    have v1 := hal.2 i _ _ hx hz
    have v2 := hbl.2 i _ _ hy hz
    repeat' (first | ((first | ((with_reducible apply o_call_pure (f := 21)); exact rfl) | ((with_reducible apply q_call_pure (f := 21)); exact rfl; kernel_rfl; exact rfl; (focus (repeat (first | (apply SubJ.keep; (decide +kernel)) | apply SubJ.drop | exact SubJ.nil))))); (repeat (first | exact Evs.nil | apply Evs.cons rfl)); exact (fun w hw => same_yes rfl w (v1.keep hw (by ((focus (repeat (first | exact AO.nil | apply AO.cons | (apply AO.app; assumption)))) <;> done))) (v2.keep hw (by ((focus (repeat (first | exact AO.nil | apply AO.cons | (apply AO.app; assumption)))) <;> done))))) | ((with_reducible first | apply o_move | apply o_assign | apply o_not_d); exact rfl; exact rfl) | ((with_reducible first | apply o_lss | apply o_neq); exact rfl; exact rfl; exact rfl) | ((with_reducible apply o_add); exact rfl; exact rfl; exact rfl; (constructor <;> omega)) | ((with_reducible apply o_len); infer_instance; exact rfl; exact rfl) | ((with_reducible first | apply c_seq | apply c_block | apply c_region | apply c_nil | apply c_ret | apply c_exit | apply c_unroll | apply c_skip)) | ((with_reducible apply c_cond_t); exact rfl; exact tT_) | ((with_reducible apply c_cond_f); exact rfl; exact fF_) | ((with_reducible first | apply e_then | apply e_then_ret | apply e_then_exit | apply e_in | apply e_in_ret | apply e_in_same)) | ((with_reducible apply c_regionD0 (id := 6) []); kernel_rfl; kernel_rfl) | ((with_reducible apply q_nil); try simp only [ents, List.cons_append, List.nil_append]) | ((with_reducible first | apply q_move | apply q_assign | apply q_not_d); exact rfl; exact rfl) | ((with_reducible apply gdq_load); first | refine wq_load (h := ?_) | refine wq_loadAll (h := ?_) | refine wq_loadC (h := ?_) | refine wq_ldV (h := ?_) | refine wq_ldF (h := ?_)) | ((with_reducible apply q_not); exact rfl; exact rfl) | ((with_reducible apply q_idx); infer_instance; infer_instance; exact rfl; exact rfl; (first | exact rfl | omega); exact rfl; (first | assumption | omega | decide)))
    refine l_again (i + 1) (show i + 1 ≤ ss.length by omega) (show ss.length - (i + 1) < ss.length - i by omega) ?_ ?_
    · (repeat (first | exact FSub.nil | refine FSub.cons rfl ?_))
    · ((try dsimp only); repeat (first | exact HSub.nil rfl | (apply HSub.take; (repeat (first | exact Rem.hd | apply Rem.tl | apply Rem.right))) | exact HSub.same | (apply HSub.takeL; ((focus (repeat (first | exact RemL.hd | exact RemL.all | exact RemL.nil | apply RemL.tl | apply RemL.right))) <;> done)) | apply HSub.drop | (apply HSub.takeL; (focus ((repeat (first | exact RemL.hd | exact RemL.all | exact RemL.nil | apply RemL.tl | apply RemL.right))))) | (apply HSub.takeA; (first | exact RemL.hd | exact RemL.all); ((focus (repeat (first | exact AO.nil | apply AO.cons | (apply AO.app; assumption)))) <;> done)) | (apply HSub.dropL; assumption) | (apply HSub.takeA; (focus ((repeat (first | exact RemL.hd | exact RemL.all | exact RemL.nil | apply RemL.tl | apply RemL.right)))); ((focus (repeat (first | exact AO.nil | apply AO.cons | (apply AO.app; assumption)))) <;> done)) | (apply HSub.nilA; ((focus (repeat (first | exact AO.nil | apply AO.cons | (apply AO.app; assumption)))) <;> done))))
  repeat' (first | ((with_reducible first | apply o_move | apply o_assign | apply o_not_d); exact rfl; exact rfl) | ((with_reducible first | apply o_lss | apply o_neq); exact rfl; exact rfl; exact rfl) | ((with_reducible apply o_len); infer_instance; exact rfl; exact rfl) | ((with_reducible first | apply c_seq | apply c_block | apply c_region | apply c_nil | apply c_ret | apply c_exit | apply c_unroll | apply c_skip)) | ((with_reducible apply c_cond_f); exact rfl; exact fF_) | ((with_reducible first | apply e_then | apply e_then_ret | apply e_then_exit | apply e_in | apply e_in_ret | apply e_in_same)))
  all_goals try (exfalso; omega)
  apply r_body; apply res1 Try.results20; exact rV_; intro w' hw
  exact ⟨rfl, hw.below (by simp)⟩
/-! ## the examples -/
def exF : List Srt.Fd := [⟨5, 0⟩, ⟨6, 0⟩, ⟨7, 1⟩, ⟨8, 0⟩, ⟨9, 1⟩, ⟨4, -1⟩]
def exE : List Srt.Ev := [⟨1, 5, 0⟩, ⟨1, 6, 0⟩, ⟨1, 7, 1⟩, ⟨2, 8, 0⟩, ⟨1, 8, 0⟩, ⟨3, 9, 1⟩, ⟨4, 4, -1⟩]
def exM : Srt.M := ⟨[[5, 6, 8], [7]], [1, 0], [9], [4], exE, [1, 1], 0⟩
def exI : List Srt.It := [⟨1, 7, true, true⟩, ⟨2, 6, true, true⟩, ⟨3, 5, true, true⟩, ⟨4, 7, true, true⟩, ⟨5, 6, true, true⟩]
def exJ : List Srt.It := [⟨1, 7, true, true⟩, ⟨2, 6, true, true⟩, ⟨3, 5, true, true⟩, ⟨4, 7, true, false⟩, ⟨5, 6, true, true⟩]
theorem ex_run : Srt.runF [2, 1] 1 exF = (exM, 0) := by kernel_rfl
theorem ex_need : Srt.needF [2, 1] exF = (2, 0) := by kernel_rfl
theorem ex_two1 : Srt.twoE exP 0 exI = 0 := by decide +kernel
theorem ex_two2 : Srt.twoE exP 0 exJ = 0 := by decide +kernel
theorem ex_ord1 : Srt.orderF exP 0 exI = [3, 2, 5, 1, 4] := by decide +kernel
theorem ex_ord2 : Srt.orderF exP 0 exJ = [3, 2, 5, 1] := by decide +kernel
theorem ex_rej2 : (Srt.pass2 exP 0 exJ).rej = [4] := by decide +kernel
theorem plan_calls (w : World) : Calls Try.prog 27 #[] w fun e w' => ∃ v N, e = .returned v ∧ (∃ b1 b2 b3 b4, v = .agg #[.slice (some ⟨b1, 0, none⟩) 2 2, .slice (some ⟨b2, 0, none⟩) 3 3, .slice (some ⟨b3, 0, none⟩) 2 2, .slice (some ⟨b4, 0, none⟩) 2 2] ∧ N = [⟨b4, Ce (exP.second.flatMap encI) 3, true⟩, ⟨b3, Ce (exP.first.flatMap encI) 3, true⟩, ⟨b2, Ce (exP.seats.flatMap encSeat) 64, true⟩, ⟨b1, Ce (exP.caps.flatMap encI) 3, true⟩]) ∧ Rep w w' N ∧ ∀ x ∈ N, x.own = true := by
  refine f_enter0 Try.func27 rfl Try.ntmps27 rfl (Rep.start w) ?_
  repeat' (first | ((with_reducible apply o_alloc); exact rfl; intro _) | ((with_reducible apply gdo_store); first | refine wo_store1 (h := ?_) | refine wo_storeA (h := ?_)) | ((with_reducible apply gdo_build); first | refine wo_build (h := ?_) | refine wo_buildA (h := ?_)) | ((with_reducible apply gdo_buildSlice); refine wo_buildSlice (h := fun _ => ?_)) | ((with_reducible first | apply c_seq | apply c_block | apply c_region | apply c_nil | apply c_ret | apply c_exit | apply c_unroll | apply c_skip)) | ((with_reducible first | apply e_then | apply e_then_ret | apply e_then_exit | apply e_in | apply e_in_ret | apply e_in_same)))
  apply r_body; apply res1 Try.results27; exact rV_; intro w' hw
  rename_i b0 b1 b2 b3 b4
  exact ⟨_, _, rfl, ⟨b1, b2, b3, b4, rfl, rfl⟩, hw.sub (by ((try dsimp only); repeat (first | exact HSub.nil rfl | (apply HSub.take; (repeat (first | exact Rem.hd | apply Rem.tl | apply Rem.right))) | exact HSub.same | (apply HSub.takeL; ((focus (repeat (first | exact RemL.hd | exact RemL.all | exact RemL.nil | apply RemL.tl | apply RemL.right))) <;> done)) | apply HSub.drop | (apply HSub.takeL; (focus ((repeat (first | exact RemL.hd | exact RemL.all | exact RemL.nil | apply RemL.tl | apply RemL.right))))) | (apply HSub.takeA; (first | exact RemL.hd | exact RemL.all); ((focus (repeat (first | exact AO.nil | apply AO.cons | (apply AO.app; assumption)))) <;> done)) | (apply HSub.dropL; assumption) | (apply HSub.takeA; (focus ((repeat (first | exact RemL.hd | exact RemL.all | exact RemL.nil | apply RemL.tl | apply RemL.right)))); ((focus (repeat (first | exact AO.nil | apply AO.cons | (apply AO.app; assumption)))) <;> done)) | (apply HSub.nilA; ((focus (repeat (first | exact AO.nil | apply AO.cons | (apply AO.app; assumption)))) <;> done))))), by simp⟩
end Go.Proofs.Ytlahifpnncekgaa
