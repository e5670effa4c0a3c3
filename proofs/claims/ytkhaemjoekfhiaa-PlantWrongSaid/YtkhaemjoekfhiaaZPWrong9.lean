/- A part of the proofs of this seat: a small logic of walks, plain laws, and what some of the program's functions compute, shown by walks through their code. Conditions: the hypotheses that each theorem names. -/
import Derived.Test.YtkhaemjoekfhiaaZPWrong3
import Derived.Test.YtkhaemjoekfhiaaZPWrong8
import Derived.Test.YtkhaemjoekfhiaaZPWrong6
set_option linter.unusedSimpArgs false
set_option linter.unusedVariables false
set_option linter.unusedSectionVars false
namespace Go.Sx.Plt
/-- The plant of the chapter. -/
def exPl (t : Int) : Plant := ⟨[⟨1, 0, 2, [5, 5], [⟨0, 1⟩, ⟨10, t⟩]⟩], [⟨1, 7, 1⟩, ⟨2, 6, 1⟩, ⟨3, 5, 1⟩, ⟨4, 7, 1⟩, ⟨5, 6, 1⟩],
  [⟨3, 1, 0, [(0, 1)], [⟨5, 0⟩, ⟨6, 1⟩, ⟨7, 0⟩], []⟩, ⟨4, 1, 0, [(3, 0), (3, 1)], [⟨5, 0⟩, ⟨6, 0⟩, ⟨7, 1⟩], []⟩]⟩
theorem ex20_valid : validF (exPl 20) = (0, 0) := by decide +kernel
theorem ex14_valid : validF (exPl 14) = (0, 0) := by decide +kernel
theorem ex20_w1 : whereF (exPl 20) 5 11 = ((1, 0, 1), 0) := by decide +kernel
theorem ex20_w2 : whereF (exPl 20) 5 12 = ((2, 3, 1), 0) := by decide +kernel
theorem ex20_w3 : whereF (exPl 20) 5 14 = ((2, 3, 1), 0) := by decide +kernel
theorem ex20_w4 : whereF (exPl 20) 5 15 = ((2, 4, 0), 0) := by decide +kernel
theorem ex14_w : whereF (exPl 14) 5 99 = ((2, 3, 1), 0) := by decide +kernel
theorem ex20_r0 : ∃ r, (playF (exPl 20))[0]? = some r ∧ r.start = 0 ∧ r.fin = 12 ∧ r.pass = 3 ∧ r.slices = [(0, 1), (10, 12)] ∧ r.res.stackers = [[1, 3, 4], [2, 5]] := ⟨(playF (exPl 20)).headD ⟨0, 0, 0, [], [], Srt.M.new 0 0⟩, by kernel_rfl, by kernel_rfl, by kernel_rfl, by kernel_rfl, by kernel_rfl, by kernel_rfl⟩
theorem ex20_r1 : ∃ r, (playF (exPl 20))[1]? = some r ∧ r.start = 12 ∧ r.fin = 15 ∧ r.items = [1, 3, 4, 2, 5] ∧ r.res.stackers = [[3, 2, 5], [1, 4]] := ⟨(playF (exPl 20)).tail.headD ⟨0, 0, 0, [], [], Srt.M.new 0 0⟩, by kernel_rfl, by kernel_rfl, by kernel_rfl, by kernel_rfl, by kernel_rfl⟩
theorem ex14_r0 : ∃ r, (playF (exPl 14))[0]? = some r ∧ r.fin = 12 := ⟨(playF (exPl 14)).headD ⟨0, 0, 0, [], [], Srt.M.new 0 0⟩, by kernel_rfl, by kernel_rfl⟩
theorem ex14_r1 : ∃ r, (playF (exPl 14))[1]? = some r ∧ r.start = -1 ∧ r.fin = -1 ∧ r.items = [] := ⟨(playF (exPl 14)).tail.headD ⟨0, 0, 0, [], [], Srt.M.new 0 0⟩, by kernel_rfl, by kernel_rfl, by kernel_rfl, by kernel_rfl⟩
end Go.Sx.Plt
namespace Go.Proofs.Ytkhaemjoekfhiaa
open Go Go.Sx Go.RowKit
attribute [local irreducible] WL WC WQ WR WB WF QB St Exit.then Exit.inBlock Exit.noGoto bodyPost roundPost beginK YR RG BM Calls B AgainD MeetD
/-! ## the plant of the chapter -/
def exQ (b1 b2 b3 b4 b5 b6 b7 b8 b9 : Nat) : PlD := ⟨(some ⟨b3, 0, none⟩, 1, 1), (some ⟨b4, 0, none⟩, 5, 5), (some ⟨b9, 0, none⟩, 2, 2),
  [⟨1, 0, 2, (some ⟨b1, 0, none⟩, 2, 2), (some ⟨b2, 0, none⟩, 2, 2)⟩], [⟨3, 1, 0, (some ⟨b5, 0, none⟩, 1, 1), (some ⟨b6, 0, none⟩, 3, 3), nsd⟩, ⟨4, 1, 0, (some ⟨b7, 0, none⟩, 2, 2), (some ⟨b8, 0, none⟩, 3, 3), nsd⟩]⟩
def exN (b1 b2 b3 b4 b5 b6 b7 b8 b9 : Nat) (t : Int) : List Ent := [⟨b9, Ce [.int .i64 3, .int .i64 1, .int .i64 0, slc b5 1, slc b6 3, .slice none 0 0, .int .i64 4, .int .i64 1, .int .i64 0, slc b7 2, slc b8 3, .slice none 0 0] 58, true⟩, ⟨b8, Ce [.int .i64 5, .int .i64 0, .int .i64 6, .int .i64 0, .int .i64 7, .int .i64 1] 76, true⟩, ⟨b7, Ce [.int .i64 3, .int .i64 0, .int .i64 3, .int .i64 1] 64, true⟩, ⟨b6, Ce [.int .i64 5, .int .i64 0, .int .i64 6, .int .i64 1, .int .i64 7, .int .i64 0] 76, true⟩, ⟨b5, Ce [.int .i64 0, .int .i64 1] 64, true⟩, ⟨b4, Ce [.int .i64 1, .int .i64 7, .int .i64 1, .int .i64 2, .int .i64 6, .int .i64 1, .int .i64 3, .int .i64 5, .int .i64 1, .int .i64 4, .int .i64 7, .int .i64 1, .int .i64 5, .int .i64 6, .int .i64 1] 38, true⟩, ⟨b3, Ce [.int .i64 1, .int .i64 0, .int .i64 2, slc b1 2, slc b2 2] 61, true⟩, ⟨b2, Ce [.int .i64 0, .int .i64 1, .int .i64 10, .int .i64 t] 70, true⟩, ⟨b1, Ce [.int .i64 5, .int .i64 5] 3, true⟩]
theorem exN_own {b1 b2 b3 b4 b5 b6 b7 b8 b9 : Nat} {t : Int} : ∀ x ∈ exN b1 b2 b3 b4 b5 b6 b7 b8 b9 t, x.own = true := by simp [exN]
theorem ex_plV {b1 b2 b3 b4 b5 b6 b7 b8 b9 : Nat} {t : Int} : Shw (exN b1 b2 b3 b4 b5 b6 b7 b8 b9 t) (fun w => PlV w (exQ b1 b2 b3 b4 b5 b6 b7 b8 b9) (Plt.exPl t)) := fun w0 w L L0 hr hw => by
  have hw2 : Rep w0 w (exN b1 b2 b3 b4 b5 b6 b7 b8 b9 t ++ L0) := hw.perm hr
  unfold exN at hw2
  simp only [List.cons_append, List.nil_append] at hw2
  refine ⟨SV.lit (n := 1) [(⟨1, 0, 2, (some ⟨b1, 0, none⟩, 2, 2), (some ⟨b2, 0, none⟩, 2, 2)⟩ : MD)] encMD_len hw2 (by exact aT_) rfl rfl (by decide), SV.lit (n := 5) (Plt.exPl t).items encItem_len hw2 (by exact aT_) rfl rfl (by decide), SV.lit (n := 2) [(⟨3, 1, 0, (some ⟨b5, 0, none⟩, 1, 1), (some ⟨b6, 0, none⟩, 3, 3), nsd⟩ : PD), ⟨4, 1, 0, (some ⟨b7, 0, none⟩, 2, 2), (some ⟨b8, 0, none⟩, 3, 3), nsd⟩] encPD_len hw2 (by exact aT_) rfl rfl (by decide), rfl, rfl, fun i d m hd hm => ?_, fun i d y hd hy => ?_⟩
  · rcases i with _ | i
    · simp [exQ] at hd
      simp [Plt.exPl] at hm
      subst hd hm
      exact ⟨rfl, rfl, rfl, SV.lit (n := 2) [5, 5] encI_len hw2 (by exact aT_) rfl rfl (by decide), SV.lit (n := 2) [⟨0, 1⟩, ⟨10, t⟩] encSh_len hw2 (by exact aT_) rfl rfl (by decide)⟩
    · simp [exQ] at hd
  · rcases i with _ | _ | i
    · simp [exQ] at hd
      simp [Plt.exPl] at hy
      subst hd hy
      exact ⟨rfl, rfl, rfl, SV.lit (n := 1) [((0 : Int), (1 : Int))] encSrc_len hw2 (by exact aT_) rfl rfl (by decide), SV.lit (n := 3) [⟨5, 0⟩, ⟨6, 1⟩, ⟨7, 0⟩] encRow_len hw2 (by exact aT_) rfl rfl (by decide), SV.nil⟩
    · simp [exQ] at hd
      simp [Plt.exPl] at hy
      subst hd hy
      exact ⟨rfl, rfl, rfl, SV.lit (n := 2) [((3 : Int), (0 : Int)), (3, 1)] encSrc_len hw2 (by exact aT_) rfl rfl (by decide), SV.lit (n := 3) [⟨5, 0⟩, ⟨6, 0⟩, ⟨7, 1⟩] encRow_len hw2 (by exact aT_) rfl rfl (by decide), SV.nil⟩
    · simp [exQ] at hd
theorem example_calls (w : World) : Calls Try.prog 35 #[] w fun e w' => ∃ v N, e = .returned v ∧ (∃ b1 b2 b3 b4 b5 b6 b7 b8 b9, v = plV (exQ b1 b2 b3 b4 b5 b6 b7 b8 b9) ∧ N = exN b1 b2 b3 b4 b5 b6 b7 b8 b9 20) ∧ Rep w w' N ∧ ∀ x ∈ N, x.own = true := by
  refine f_enter0 Try.func35 rfl Try.ntmps35 rfl (Rep.start w) ?_
  repeat' (first | ((with_reducible apply o_alloc); exact rfl; intro _) | ((with_reducible apply gdo_store); first | refine wo_store1 (h := ?_) | refine wo_storeA (h := ?_)) | ((with_reducible apply gdo_build); first | refine wo_build (h := ?_)) | ((with_reducible apply gdo_buildSlice); refine wo_buildSlice (h := fun _ => ?_)) | ((with_reducible first | apply c_seq | apply c_block | apply c_region | apply c_nil | apply c_ret | apply c_exit | apply c_skip)) | ((with_reducible first | apply e_then | apply e_then_ret | apply e_then_exit | apply e_in | apply e_in_ret | apply e_in_same)))
  apply r_body; apply res1 Try.results35; exact rV_; intro w' hw
  rename_i b0 b1 b2 b3 b4 b5 b6 b7 b8 b9
  exact ⟨_, exN b1 b2 b3 b4 b5 b6 b7 b8 b9 20, rfl, ⟨b1, b2, b3, b4, b5, b6, b7, b8, b9, rfl, rfl⟩, hw.sub (by unfold exN; exact hS_), exN_own⟩
theorem atp_calls {q : PlD} {p : Plt.Plant} {x t kd ps nu : Int} (hc : Plt.validF p = (0, 0)) (he : Plt.whereF p x t = ((kd, ps, nu), 0)) (w : World) (h : PlV w q p) : Calls Try.prog 36 #[plV q, .int .i64 x, .int .i64 t, .agg #[.int .u8 kd, .int .i64 ps, .int .i64 nu]] w fun e w' => e = .returned (.bool true) ∧ Below w.heap.size w w' := by
  obtain ⟨⟨a1, n1, c1⟩, ⟨a2, n2, c2⟩, ⟨a3, n3, c3⟩, ds, ys⟩ := q
  refine f_enter4 Try.func36 rfl Try.ntmps36 rfl (Rep.start w) ?_
  repeat' (first | ((first | ((with_reducible apply o_call_pure (f := 13)); exact rfl) | ((with_reducible apply q_call_pure (f := 13)); exact rfl; kernel_rfl; exact rfl; exact sJ_)); exact eV_; exact (fun w hw => where_calls (Plt.calm_of hc) he w (h.keep hw (by exact aO_)))) | ((with_reducible first | apply o_move | apply o_assign); exact rfl; exact rfl) | ((with_reducible apply gdo_load); first | refine wo_load (h := ?_) | refine wo_loadAll (h := ?_) | refine wo_loadC (h := ?_) | refine wo_ldV (h := ?_) | refine wo_ldF (h := ?_)) | ((with_reducible first | apply o_eql | apply o_extract); exact rfl; exact rfl; exact rfl) | ((with_reducible apply gdo_binOp_eql); refine wo_eql_s (h := ?_)) | ((with_reducible apply o_pick_t); exact rfl; exact tT_; exact rfl; exact rfl) | ((with_reducible apply o_alloc); exact rfl; intro _) | ((with_reducible apply o_box); exact rfl; exact rfl; exact rfl; intro _) | ((with_reducible apply gdo_store); first | refine wo_store1 (h := ?_) | refine wo_storeA (h := ?_)) | ((with_reducible first | apply g_run); exact rfl; exact gG_) | ((with_reducible first | apply c_seq | apply c_block | apply c_region | apply c_nil | apply c_ret | apply c_exit | apply c_skip)) | ((with_reducible first | apply e_then | apply e_then_ret | apply e_then_exit | apply e_in | apply e_in_ret | apply e_in_same)))
  apply r_body; apply res1 Try.results36; exact rV_; intro w' hw
  refine ⟨?_, hw.below (by simp)⟩
  simp
end Go.Proofs.Ytkhaemjoekfhiaa
namespace Go.Proofs.Ytkhaemjoekfhiaa
open Go Go.Sx Go.RowKit
attribute [local irreducible] WL WC WQ WR WB WF QB St Exit.then Exit.inBlock Exit.noGoto bodyPost roundPost beginK YR RG BM Calls B AgainD MeetD
/-! ## lists -/
theorem same_yes {va vb : Value} {xs ys : List Int} (he : xs = ys) (w : World) (ha : SV w 1 encI va xs) (hb : SV w 1 encI vb ys) : Calls Try.prog 20 #[va, vb] w fun e w' => e = .returned (.bool true) ∧ Below w.heap.size w w' := by
  have := sameInts_calls w ha hb; rwa [B_true he] at this
theorem LL.two' {α : Type} {E : TypeId} {k : Nat} {enc : α → List Value} {x y : List α} {L : List Ent} {b b' : Nat} {w0 w : World} (henc : ∀ x, (enc x).length = k) (hw : Rep w0 w L) (h1 : At L b (Ce (x.flatMap enc) E)) (h2 : At L b' (Ce (y.flatMap enc) E)) (hx : x.length ≤ 1000000) (hy : y.length ≤ 1000000) : SL w k enc [(some ⟨b, 0, none⟩, x.length, x.length), (some ⟨b', 0, none⟩, y.length, y.length)] [x, y] := by
  refine ⟨rfl, fun i s xs hs hxs => ?_⟩
  match i with
  | 0 =>
    cases hs; cases hxs
    exact SV.lit x henc hw h1 rfl rfl (show x.length ≤ _ from by omega)
  | 1 =>
    cases hs; cases hxs
    exact SV.lit y henc hw h2 rfl rfl (show y.length ≤ _ from by omega)
  | i + 2 => simp at hs
set_option maxHeartbeats 4000000 in
theorem lists_yes {va vb : Value} {ss tt : List SD} {xss yss : List (List Int)} (he : xss = yss) (w : World) (ha : SV w 1 encS va ss) (hal : SL w 1 encI ss xss) (hb : SV w 1 encS vb tt) (hbl : SL w 1 encI tt yss) : Calls Try.prog 24 #[va, vb] w fun e w' => e = .returned (.bool true) ∧ Below w.heap.size w w' := by
  subst he
  obtain ⟨a1, c1, rfl, hc1, hop1⟩ := ha.open
  obtain ⟨a2, c2, rfl, hc2, hop2⟩ := hb.open
  have hl1 := hal.1
  have hl2 := hbl.1
  refine f_enter2 Try.func24 rfl Try.ntmps24 rfl (Rep.start w) ?_
  repeat' (first | ((with_reducible first | apply o_move | apply o_assign | apply o_not_d); exact rfl; exact rfl) | ((with_reducible first | apply o_lss | apply o_neq); exact rfl; exact rfl; exact rfl) | ((with_reducible apply o_len); infer_instance; exact rfl; exact rfl) | ((with_reducible first | apply c_seq | apply c_block | apply c_region | apply c_nil | apply c_ret | apply c_exit | apply c_skip)) | ((with_reducible apply c_cond_f); exact rfl; exact fF_) | ((with_reducible first | apply e_then | apply e_then_ret | apply e_then_exit | apply e_in | apply e_in_ret | apply e_in_same)))
  all_goals try (exfalso; omega)
  apply c_loop (σ := Nat) (Fs := fun i => [(5, .int .i64 i), (0, .slice a1 ss.length c1), (1, .slice a2 tt.length c2)])
    (Ls := fun i => []) (I := fun i => i ≤ ss.length) (μ := fun i => ss.length - i) (s0 := 0)
  · exact Nat.zero_le _
  · exact fS_
  · exact hS_
  intro i hi
  have hi : i ≤ ss.length := hi
  by_cases hlt : i < ss.length
  · obtain ⟨⟨sa, sn, sc⟩, hx⟩ : ∃ s, ss[i]? = some s := ⟨_, List.getElem?_eq_getElem hlt⟩
    obtain ⟨⟨ta, tn, tc⟩, hy⟩ : ∃ s, tt[i]? = some s := ⟨_, List.getElem?_eq_getElem (by omega)⟩
    obtain ⟨xs, hz⟩ : ∃ s, xss[i]? = some s := ⟨_, List.getElem?_eq_getElem (by omega)⟩
    obtain ⟨b, off, cc, e, fz, rfl, hk, hp⟩ := hop1 (by omega)
    obtain ⟨b', off', cc', e', fz', rfl, hk', hp'⟩ := hop2 (by omega)
    have q1 := hp.one hx rfl
    have q2 := hp'.one hy rfl
    have v1 := hal.2 i _ _ hx hz
    have v2 := hbl.2 i _ _ hy hz
    repeat' (first | ((first | ((with_reducible apply o_call_pure (f := 20)); exact rfl) | ((with_reducible apply q_call_pure (f := 20)); exact rfl; kernel_rfl; exact rfl; exact sJ_)); exact eV_; exact (fun w hw => same_yes rfl w (v1.keep hw (by exact aO_)) (v2.keep hw (by exact aO_)))) | ((with_reducible first | apply o_move | apply o_assign | apply o_not_d); exact rfl; exact rfl) | ((with_reducible first | apply o_lss | apply o_neq); exact rfl; exact rfl; exact rfl) | ((with_reducible apply o_add); exact rfl; exact rfl; exact rfl; (constructor <;> omega)) | ((with_reducible apply o_len); infer_instance; exact rfl; exact rfl) | ((with_reducible first | apply c_seq | apply c_block | apply c_region | apply c_nil | apply c_ret | apply c_exit | apply c_skip)) | ((with_reducible apply c_cond_t); exact rfl; exact tT_) | ((with_reducible apply c_cond_f); exact rfl; exact fF_) | ((with_reducible first | apply e_then | apply e_then_ret | apply e_then_exit | apply e_in | apply e_in_ret | apply e_in_same)) | ((with_reducible apply c_regionD0 (id := 6) []); kernel_rfl; kernel_rfl) | ((with_reducible apply q_nil); try simp only [ents, List.cons_append, List.nil_append]) | ((with_reducible first | apply q_move | apply q_assign); exact rfl; exact rfl) | ((with_reducible apply gdq_load); first | refine wq_load (h := ?_) | refine wq_loadAll (h := ?_) | refine wq_loadC (h := ?_) | refine wq_ldV (h := ?_) | refine wq_ldF (h := ?_)) | ((with_reducible apply q_not); exact rfl; exact rfl) | ((with_reducible apply q_idx); infer_instance; infer_instance; exact rfl; exact rfl; (first | exact rfl | omega); exact rfl; (first | assumption | omega | decide)))
    refine l_again (i + 1) (show i + 1 ≤ ss.length by omega) (show ss.length - (i + 1) < ss.length - i by omega) ?_ ?_
    · exact fS_
    · exact hS_
  repeat' (first | ((with_reducible first | apply o_move | apply o_assign | apply o_not_d); exact rfl; exact rfl) | ((with_reducible first | apply o_lss | apply o_neq); exact rfl; exact rfl; exact rfl) | ((with_reducible apply o_len); infer_instance; exact rfl; exact rfl) | ((with_reducible first | apply c_seq | apply c_block | apply c_region | apply c_nil | apply c_ret | apply c_exit | apply c_skip)) | ((with_reducible apply c_cond_f); exact rfl; exact fF_) | ((with_reducible first | apply e_then | apply e_then_ret | apply e_then_exit | apply e_in | apply e_in_ret | apply e_in_same)))
  all_goals try (exfalso; omega)
  apply r_body; apply res1 Try.results24; exact rV_; intro w' hw
  exact ⟨rfl, hw.below (by simp)⟩
/-! ## runs, taken apart -/
end Go.Proofs.Ytkhaemjoekfhiaa
namespace Go.Sx
theorem SV.ptr {α : Type} {w : World} {k m c : Nat} {a : Option Addr} {enc : α → List Value} {xs : List α} {x : α} {i : Nat} (h : SV w k enc (.slice a m c) xs) (hx : xs[i]? = some x) : ∃ b off, a = some ⟨b, off, none⟩ := by
  obtain ⟨_, _, e1, _, hop⟩ := h.open
  cases e1
  obtain ⟨b, off, _, _, _, e2, _⟩ := hop (by have := (List.getElem?_eq_some_iff.1 hx).1; omega)
  exact ⟨b, off, e2⟩
theorem SV.sd {α : Type} {w : World} {k : Nat} {d : SD} {enc : α → List Value} {xs : List α} (h : SV w k enc (sdV d) xs) : ∃ a c, d = (a, xs.length, c) := by
  obtain ⟨a, n, c⟩ := d
  obtain ⟨_, _, e1, _, _⟩ := h.open
  cases e1
  exact ⟨a, c, rfl⟩
end Go.Sx
namespace Go.Proofs.Ytkhaemjoekfhiaa
open Go Go.Sx Go.RowKit
theorem RunsV.at {w : World} {a : Option Addr} {n c : Nat} {ds : List RD} {runs : List Plt.Run} {i : Nat} {r : Plt.Run} (h : RunsV w (.slice a n c) ds runs) (hr : runs[i]? = some r) : ∃ b off x1 k1 x2 k2 x3 n3 k3 x4 n4 k4 x5 k5 x6 k6 x7 n7 k7, a = some ⟨b, off, none⟩ ∧
    ds[i]? = some ⟨r.pass, r.start, r.fin, (x1, r.items.length, k1), (x2, r.slices.length, k2), (x3, n3, k3), (x4, n4, k4), (x5, r.res.over.length, k5), (x6, r.res.rej.length, k6), (x7, n7, k7)⟩ ∧ n3 = r.res.stackers.length ∧
    ∀ (j : Nat) (u : Value), ([.int .i64 r.pass, .int .i64 r.start, .int .i64 r.fin, .slice x1 r.items.length k1, .slice x2 r.slices.length k2, .slice x3 n3 k3, .slice x4 n4 k4, .slice x5 r.res.over.length k5, .slice x6 r.res.rej.length k6, .slice x7 n7 k7] : List Value)[j]? = some u →
      (encRD ⟨r.pass, r.start, r.fin, (x1, r.items.length, k1), (x2, r.slices.length, k2), (x3, n3, k3), (x4, n4, k4), (x5, r.res.over.length, k5), (x6, r.res.rej.length, k6), (x7, n7, k7)⟩)[j]? = some u := by
  obtain ⟨hs, hl, hh⟩ := h
  obtain ⟨d, hd⟩ : ∃ d, ds[i]? = some d := ⟨_, List.getElem?_eq_getElem (by have := (List.getElem?_eq_some_iff.1 hr).1; omega)⟩
  obtain ⟨b, off, rfl⟩ := hs.ptr hd
  have hv := hh i d r hd hr
  obtain ⟨x1, k1, e1⟩ := hv.items.sd
  obtain ⟨x2, k2, e2⟩ := hv.slices.sd
  rw [Plt.slc3_len] at e2
  obtain ⟨ss, h3, h4⟩ := hv.stk
  obtain ⟨x3, k3, e3⟩ := h3.sd
  rw [h4.1] at e3
  obtain ⟨x5, k5, e5⟩ := hv.ov.sd
  obtain ⟨x6, k6, e6⟩ := hv.rj.sd
  obtain ⟨p, s, f, i1, i2, i3, ⟨x4, n4, k4⟩, i5, i6, ⟨x7, n7, k7⟩⟩ := d
  refine ⟨b, off, x1, k1, x2, k2, x3, _, k3, x4, n4, k4, x5, k5, x6, k6, x7, n7, k7, rfl, ?_, rfl, fun _ _ h => h⟩
  rw [hd]
  obtain rfl : p = r.pass := hv.pass
  obtain rfl : s = r.start := hv.start
  obtain rfl : f = r.fin := hv.fin
  dsimp only at e1 e2 e3 e5 e6
  rw [e1, e2, e3, e5, e6]
theorem RunV.stk' {w : World} {r : Plt.Run} {d : RD} {x3 : Option Addr} {n3 k3 : Nat} (h : RunV w d r) (hd : d.stk = (x3, n3, k3)) : ∃ ss, SV w 1 encS (.slice x3 n3 k3) ss ∧ SL w 1 encI ss r.res.stackers := by
  obtain ⟨ss, h1, h2⟩ := h.stk
  rw [hd] at h1
  exact ⟨ss, h1, h2⟩
theorem lists_is {va vb : Value} {tt : List SD} {xss yss : List (List Int)} (he : xss = yss) (w : World) (ha : ∃ ss, SV w 1 encS va ss ∧ SL w 1 encI ss xss) (hb : SV w 1 encS vb tt) (hbl : SL w 1 encI tt yss) : Calls Try.prog 24 #[va, vb] w fun e w' => e = .returned (.bool true) ∧ Below w.heap.size w w' := by
  obtain ⟨ss, h1, h2⟩ := ha
  exact lists_yes he w h1 h2 hb hbl
end Go.Proofs.Ytkhaemjoekfhiaa
namespace Go.Proofs.Ytkhaemjoekfhiaa
open Go Go.Sx Go.RowKit
theorem and1_64 (x : Int) (h : 0 ≤ x ∧ x ≤ 255) : IntKind.i64.wrap ((BitVec.ofInt IntKind.i64.bits x &&& BitVec.ofInt IntKind.i64.bits 1).toNat) = x % 2 := by
  obtain ⟨k, rfl⟩ := Int.eq_ofNat_of_zero_le h.1
  have hk : k < 256 := by omega
  have e : (BitVec.ofInt IntKind.i64.bits (k : Int) &&& BitVec.ofInt IntKind.i64.bits 1).toNat = k % 2 := by
    rw [BitVec.toNat_and]
    have e1 : (BitVec.ofInt IntKind.i64.bits (k : Int)).toNat = k := by
      show (BitVec.ofInt 64 (k : Int)).toNat = k
      simp; omega
    have e2 : (BitVec.ofInt IntKind.i64.bits 1).toNat = 1 := rfl
    rw [e1, e2, Nat.and_one_is_mod]
  rw [e, wrap_in (by omega) (by omega)]; omega
section
variable {P : Program} {n : Nat} {D : List Deferred} {w0 : World} {F : List (Nat × Value)} {L : List Ent} {J J1 : Made} {Φ : Specs} {X : Act → World → Prop} {kq : Nat} {ops : Array Oper} {Q : Exit → Act → World → Prop} {r : Option Nat}
variable {d : Tmp} {ty : TypeId} {pos : String} {af : Array Edge} {rest : List Oper}
variable {x y : Operand} {m l v : Int} {t u : TypeId} (hx : ev F x = some (.int .i64 m)) (hy : ev F y = some (.int .i64 l))
include hx hy
theorem o_mulE (e : m * l = v) (hr : -9223372036854775808 ≤ v ∧ v ≤ 9223372036854775807) (hd : Nat.ble (d + 1) n = true) (h : St n D w0 ((d, .int .i64 v) :: F) L (WL r P ops Q rest)) : St n D w0 F L (WL r P ops Q (⟨some d, .binOp .mul t x y u, ty, pos, af, none⟩ :: rest)) := by subst e; exact o_mul hx hy hd hr h
theorem o_remE (e : m % l = v) (hr : 0 ≤ m ∧ 0 < l) (hd : Nat.ble (d + 1) n = true) (h : St n D w0 ((d, .int .i64 v) :: F) L (WL r P ops Q rest)) : St n D w0 F L (WL r P ops Q (⟨some d, .binOp .rem t x y u, ty, pos, af, none⟩ :: rest)) := by subst e; exact o_rem hx hy hd hr h
theorem q_remE (e : m % l = v) (hr : 0 ≤ m ∧ 0 < l) (hd : Nat.ble (d + 1) n = true) (h : St n D w0 ((d, .int .i64 v) :: F) L (WQ P ops w0 L Φ X (kq + 1) J rest)) : St n D w0 F L (WQ P ops w0 L Φ X kq J (⟨some d, .binOp .rem t x y u, ty, pos, af, none⟩ :: rest)) := by subst e; exact q_rem hx hy hd hr h
theorem o_shrE (e : m / 2 ^ l.toNat = v) (hr : 0 ≤ m ∧ 0 ≤ l ∧ l < 64) (hd : Nat.ble (d + 1) n = true) (h : St n D w0 ((d, .int .i64 v) :: F) L (WL r P ops Q rest)) : St n D w0 F L (WL r P ops Q (⟨some d, .binOp .shr t x y u, ty, pos, af, none⟩ :: rest)) :=
  o_shr hx hy hd hr.2.1 (by
    have e1 : min l.toNat IntKind.i64.bits = l.toNat := by show min l.toNat 64 = l.toNat; omega
    have e2 : m.fdiv (2 ^ l.toNat) = m / 2 ^ l.toNat := Int.fdiv_eq_ediv_of_nonneg _ (Int.le_of_lt (Int.pow_pos (by decide)))
    rw [e1, e2, e]; exact h)
end
section
variable {P : Program} {n : Nat} {D : List Deferred} {w0 : World} {F : List (Nat × Value)} {L : List Ent} {J J1 : Made} {Φ : Specs} {X : Act → World → Prop} {kq : Nat} {ops : Array Oper} {Q : Exit → Act → World → Prop} {r : Option Nat}
variable {d : Tmp} {ty : TypeId} {pos : String} {af : Array Edge} {rest : List Oper}
theorem o_andE {x y : Operand} {m v : Int} {t u : TypeId} (hx : ev F x = some (.int .i64 m)) (hy : ev F y = some (.int .i64 1)) (e : m % 2 = v) (hr : 0 ≤ m ∧ m ≤ 255) (hd : Nat.ble (d + 1) n = true) (h : St n D w0 ((d, .int .i64 v) :: F) L (WL r P ops Q rest)) : St n D w0 F L (WL r P ops Q (⟨some d, .binOp .and t x y u, ty, pos, af, none⟩ :: rest)) :=
  o_and_w hx hy hd (by rw [and1_64 m hr, e]; exact h)
theorem o_conv8 {x : Operand} {m : Int} {s t : TypeId} {ds : TypeDesc} (hS : TU P s ds) (hT : TU P t (.int .i64)) (hx : ev F x = some (.int .u8 m)) (hr : 0 ≤ m ∧ m ≤ 255) (hd : Nat.ble (d + 1) n = true)
    (h : St n D w0 ((d, .int .i64 m) :: F) L (WL r P ops Q rest)) : St n D w0 F L (WL r P ops Q (⟨some d, .convert s t x, ty, pos, af, none⟩ :: rest)) :=
  o_conv (ds := ds) hx hd (by rw [wrap_in (by omega) (by omega)]; exact h)
theorem q_conv8 {x : Operand} {m : Int} {s t : TypeId} {ds : TypeDesc} (hS : TU P s ds) (hT : TU P t (.int .i64)) (hx : ev F x = some (.int .u8 m)) (hΦ : Φ kq = none) (hJ : SubJ ((anc ops).getD kq 0) J1 J) (hr : 0 ≤ m ∧ m ≤ 255) (hd : Nat.ble (d + 1) n = true)
    (h : St n D w0 ((d, .int .i64 m) :: F) L (WQ P ops w0 L Φ X (kq + 1) J rest)) : St n D w0 F L (WQ P ops w0 L Φ X kq J (⟨some d, .convert s t x, ty, pos, af, none⟩ :: rest)) :=
  q_conv (ds := ds) hx hΦ hJ hd (by rw [wrap_in (by omega) (by omega)]; exact h)
end
end Go.Proofs.Ytkhaemjoekfhiaa
namespace Go.Sx.Plt
/-- The minutes that some shifts have from a time on. -/
def haveF (t : Int) : List Sh → Int
  | [] => 0
  | s :: r => max 0 (s.t - max s.f t) + haveF t r
/-- A number of a list, again from the beginning. -/
def nb (l : List UInt8) (i : Nat) : Int := if l.length = 0 then 0 else ((l.getD (i % l.length) 0).toNat : Int)
theorem nb_bd (l : List UInt8) (i : Nat) : 0 ≤ nb l i ∧ nb l i ≤ 255 := by
  unfold nb
  split
  · omega
  · have := (l.getD (i % l.length) 0).toNat_lt
    omega
end Go.Sx.Plt
namespace Go.Proofs.Ytkhaemjoekfhiaa
open Go Go.Sx Go.RowKit
attribute [local irreducible] WL WC WQ WR WB WF QB St Exit.then Exit.inBlock Exit.noGoto bodyPost roundPost beginK YR RG BM Calls B AgainD MeetD
/-! ## the laws' small words -/
def encB (x : UInt8) : List Value := [.int .u8 (x.toNat : Int)]
theorem encB_len : ∀ x, (encB x).length = 1 := fun _ => rfl
theorem number_calls {v : Value} {l : List UInt8} (i : Nat) (hi : i ≤ 1000000) (w : World) (h : SV w 1 encB v l) : Calls Try.prog 23 #[v, .int .i64 i] w fun e w' => e = .returned (.int .i64 (Plt.nb l i)) ∧ Below w.heap.size w w' := by
  obtain ⟨a0, c0, rfl, hc, hop⟩ := h.open
  unfold Plt.nb
  by_cases h0 : l.length = 0
  · rw [if_pos h0]
    refine f_enter2 Try.func23 rfl Try.ntmps23 rfl (Rep.start w) ?_
    repeat' (first | ((with_reducible apply c_cond_t); exact rfl; exact decide_eq_true (by omega)) | ((with_reducible first | apply o_move | apply o_assign | apply o_conv); exact rfl; exact rfl) | ((with_reducible apply o_eql); exact rfl; exact rfl; exact rfl) | ((with_reducible apply o_len); infer_instance; exact rfl; exact rfl) | ((with_reducible first | apply c_seq | apply c_block | apply c_region | apply c_nil | apply c_ret | apply c_exit | apply c_skip)) | ((with_reducible first | apply e_then | apply e_then_ret | apply e_then_exit | apply e_in | apply e_in_ret | apply e_in_same)))
    apply r_body; apply res1 Try.results23; exact rV_; intro w' hw
    exact ⟨rfl, hw.below (by simp)⟩
  · rw [if_neg h0]
    obtain ⟨j, hj⟩ : ∃ j, i % l.length = j := ⟨_, rfl⟩
    have hlt : j < l.length := by rw [← hj]; exact Nat.mod_lt _ (by omega)
    rw [hj]
    have hji : (i : Int) % (l.length : Int) = (j : Int) := by omega
    obtain ⟨y, hx⟩ : ∃ y, l[j]? = some y := ⟨_, List.getElem?_eq_getElem hlt⟩
    have hy : l.getD j 0 = y := by simp [List.getD_eq_getElem?_getD, hx]
    rw [hy]
    obtain ⟨b, off, cc, e, fz, rfl, hk, hp⟩ := hop (by omega)
    have g1 : cc[off + j * 1]? = some (.int .u8 (y.toNat : Int)) := hp.one hx rfl
    have := y.toNat_lt
    refine f_enter2 Try.func23 rfl Try.ntmps23 rfl (Rep.start w) ?_
    repeat' (first | ((with_reducible apply c_cond_f); exact rfl; exact decide_eq_false (by omega)) | ((with_reducible apply o_remE (v := (j : Int))); exact rfl; exact rfl; exact hji; omega; exact rfl) | ((with_reducible apply o_conv8); infer_instance; infer_instance; exact rfl; (constructor <;> omega); exact rfl) | ((with_reducible first | apply o_move | apply o_assign | apply o_conv); exact rfl; exact rfl) | ((with_reducible apply gdo_load); first | refine wo_load (h := ?_) | refine wo_loadAll (h := ?_) | refine wo_loadC (h := ?_) | refine wo_ldV (h := ?_) | refine wo_ldF (h := ?_)) | ((with_reducible apply o_eql); exact rfl; exact rfl; exact rfl) | ((with_reducible apply o_len); infer_instance; exact rfl; exact rfl) | ((with_reducible apply o_idx); infer_instance; infer_instance; exact rfl; exact rfl; (first | exact rfl | omega); exact rfl; (first | assumption | omega | decide)) | ((with_reducible first | apply c_seq | apply c_block | apply c_region | apply c_nil | apply c_ret | apply c_exit | apply c_skip)) | ((with_reducible first | apply e_then | apply e_then_ret | apply e_then_exit | apply e_in | apply e_in_ret | apply e_in_same)))
    apply r_body; apply res1 Try.results23; exact rV_; intro w' hw
    exact ⟨rfl, hw.below (by simp)⟩
theorem number_is {v : Value} {l : List UInt8} {i : Nat} {n k : Int} (hn : n = (i : Int)) (hi : i ≤ 1000000) (hk : Plt.nb l i = k) (w : World) (h : SV w 1 encB v l) : Calls Try.prog 23 #[v, .int .i64 n] w fun e w' => e = .returned (.int .i64 k) ∧ Below w.heap.size w w' := by
  subst hn hk; exact number_calls i hi w h
end Go.Proofs.Ytkhaemjoekfhiaa
namespace Go.Sx.Plt
structure Sk where
  ms : List UInt8
  shs : List UInt8
  its : List UInt8
  ps : List UInt8
def bCaps (M : List UInt8) (i n : Nat) : List Int := (List.range n).map fun k => 1 + nb M (i + k + 4) % 12
theorem bCaps_succ (M : List UInt8) (i n : Nat) : bCaps M i (n + 1) = bCaps M i n ++ [1 + nb M (i + n + 4) % 12] := by simp [bCaps, List.range_succ]
theorem bCaps_len (M : List UInt8) (i n : Nat) : (bCaps M i n).length = n := by simp [bCaps]
def bT (S : List UInt8) (i : Nat) : Nat → Int
  | 0 => nb S i % 7
  | k + 1 => bT S i k + 1 + nb S (i + k + 2) % 12 + nb S (i + k + 3) % 5
theorem bT_bd (S : List UInt8) (i : Nat) : ∀ k, 0 ≤ bT S i k ∧ bT S i k ≤ 6 + 16 * k
  | 0 => by have := nb_bd S i; rw [bT]; omega
  | k + 1 => by have := bT_bd S i k; have := nb_bd S (i + k + 2); have := nb_bd S (i + k + 3); rw [bT]; omega
def bSh (S : List UInt8) (i k : Nat) : Sh := ⟨bT S i k, bT S i k + 1 + nb S (i + k + 2) % 12⟩
def bShs (S : List UInt8) (i n : Nat) : List Sh := (List.range n).map (bSh S i)
theorem bShs_succ (S : List UInt8) (i n : Nat) : bShs S i (n + 1) = bShs S i n ++ [bSh S i n] := by simp [bShs, List.range_succ]
theorem bShs_len (S : List UInt8) (i n : Nat) : (bShs S i n).length = n := by simp [bShs]
def bMach (M S : List UInt8) (i : Nat) : Mach := ⟨5 + i, nb M (i + 1) % 4, 1 + nb M (i + 2) % 5, bCaps M i (1 + nb M (i + 3) % 4).toNat, bShs S i (2 + nb S (i + 1) % 4).toNat⟩
def bMsN (M S : List UInt8) (n : Nat) : List Mach := (List.range n).map (bMach M S)
theorem bMsN_succ (M S : List UInt8) (n : Nat) : bMsN M S (n + 1) = bMsN M S n ++ [bMach M S n] := by simp [bMsN, List.range_succ]
theorem bMsN_len (M S : List UInt8) (n : Nat) : (bMsN M S n).length = n := by simp [bMsN]
def bMs (x : Sk) : List Mach := bMsN x.ms x.shs (1 + nb x.ms 0 % 3).toNat
def bItem (I : List UInt8) (i : Nat) : Item := ⟨100 - 2 * i, ((I.getD i 0).toNat : Int) % 9, 1 + ((I.getD i 0).toNat : Int) / 9 % 3⟩
def bIsN (I : List UInt8) (n : Nat) : List Item := (List.range n).map (bItem I)
theorem bIsN_succ (I : List UInt8) (n : Nat) : bIsN I (n + 1) = bIsN I n ++ [bItem I n] := by simp [bIsN, List.range_succ]
theorem bIsN_len (I : List UInt8) (n : Nat) : (bIsN I n).length = n := by simp [bIsN]
def bIs (x : Sk) : List Item := bIsN x.its (min x.its.length 40)
/-- What a pass takes of what is left, and what it leaves. -/
def bPick (n : Nat) : Nat → List (Int × Int) → List (Int × Int) → List (Int × Int) → List (Int × Int) × List (Int × Int)
  | _, a, b, [] => (a, b)
  | k, a, b, s :: r => if ((n : Int) / 2 ^ (k % 5) % 2 = 1 ∨ k = 0) ∧ a.length < 5 then bPick n (k + 1) (a ++ [s]) b r else bPick n (k + 1) a (b ++ [s]) r
def bTab (n c m : Nat) : List Row := ((List.range m).filter fun s => s ≠ n % 16).map fun (s : Nat) => ⟨s, (((n + s) % c : Nat) : Int)⟩
theorem bTab_succ (n c m : Nat) : bTab n c (m + 1) = bTab n c m ++ if m ≠ n % 16 then [⟨m, (((n + m) % c : Nat) : Int)⟩] else [] := by
  unfold bTab
  rw [List.range_succ, List.filter_append, List.map_append]
  congr 1
  by_cases h : m = n % 16
  · simp [h]
  · simp [h]
def bUn (its : List Item) (n i m : Nat) : List Int := ((List.range m).filter fun k => (k * n + i) % 11 = 10).map fun k => (its.getD k ⟨0, 0, 0⟩).id
theorem bUn_succ (its : List Item) (n i m : Nat) : bUn its n i (m + 1) = bUn its n i m ++ if (m * n + i) % 11 = 10 then [(its.getD m ⟨0, 0, 0⟩).id] else [] := by
  unfold bUn
  rw [List.range_succ, List.filter_append, List.map_append]
  congr 1
  by_cases h : (m * n + i) % 11 = 10
  · simp [h]
  · simp [h]
def bSrcs (id : Int) (c : Nat) : List (Int × Int) := (List.range c).map fun (k : Nat) => (id, (k : Int))
theorem bSrcs_succ (id : Int) (c : Nat) : bSrcs id (c + 1) = bSrcs id c ++ [(id, (c : Int))] := by simp [bSrcs, List.range_succ]
def bMd (ms : List Mach) (n : Nat) : Mach := ms.getD (n % ms.length) ⟨0, 0, 0, [], []⟩
def bLeft (i : Nat) (left : List (Int × Int)) : List (Int × Int) := if i < 3 then left ++ [(0, (i : Int) + 1)] else left
def bPass (ms : List Mach) (its : List Item) (n i : Nat) (left : List (Int × Int)) : Pass :=
  ⟨20 - i, (bMd ms n).id, (n : Int) / 8 % 16, (bPick n 0 [] [] (bLeft i left)).1, bTab n (bMd ms n).caps.length 8, bUn its n i its.length⟩
def bNext (ms : List Mach) (n i : Nat) (left : List (Int × Int)) : List (Int × Int) := (bPick n 0 [] [] (bLeft i left)).2 ++ bSrcs (20 - i) (bMd ms n).caps.length
def bAt (ms : List Mach) (its : List Item) (P : List UInt8) : Nat → List (Int × Int) × List Pass
  | 0 => ([], [])
  | i + 1 => (bNext ms (P.getD i 0).toNat i (bAt ms its P i).1, (bAt ms its P i).2 ++ [bPass ms its (P.getD i 0).toNat i (bAt ms its P i).1])
def built (x : Sk) : Plant := ⟨bMs x, bIs x, (bAt (bMs x) (bIs x) x.ps (min x.ps.length 6)).2⟩
theorem bAt_len (ms : List Mach) (its : List Item) (P : List UInt8) : ∀ i, (bAt ms its P i).2.length = i
  | 0 => rfl
  | i + 1 => by rw [bAt, List.length_append, bAt_len ms its P i]; rfl
theorem bPick_len (n : Nat) : ∀ (l : List (Int × Int)) (k : Nat) (a b : List (Int × Int)), (bPick n k a b l).1.length + (bPick n k a b l).2.length = a.length + b.length + l.length
  | [], k, a, b => by simp [bPick]
  | s :: r, k, a, b => by
    rw [bPick]
    split
    · rw [bPick_len n r]; simp; omega
    · rw [bPick_len n r]; simp; omega
theorem bPick_some {n k : Nat} {a b l : List (Int × Int)} {s : Int × Int} (h : l[k]? = some s) : bPick n k a b (l.drop k) = if ((n : Int) / 2 ^ (k % 5) % 2 = 1 ∨ k = 0) ∧ a.length < 5 then bPick n (k + 1) (a ++ [s]) b (l.drop (k + 1)) else bPick n (k + 1) a (b ++ [s]) (l.drop (k + 1)) := by
  rw [Go.Proofs.Ytkhaemjoekfhiaa.drop_at h, bPick]
theorem bMs_caps {x : Sk} {m : Mach} (h : m ∈ bMs x) : 1 ≤ m.caps.length ∧ m.caps.length ≤ 4 := by
  obtain ⟨j, _, rfl⟩ := List.mem_map.1 h
  have := nb_bd x.ms (j + 3)
  unfold bMach
  dsimp only
  rw [bCaps_len]
  omega
end Go.Sx.Plt
namespace Go.Proofs.Ytkhaemjoekfhiaa
open Go Go.Sx Go.RowKit
theorem MachV.eqs {w : World} {d : MD} {m : Plt.Mach} (h : MachV w d m) : ∃ x1 k1 x2 k2, d = ⟨m.id, m.sweeps, m.rate, (x1, m.caps.length, k1), (x2, m.shifts.length, k2)⟩ := by
  obtain ⟨x1, k1, e1⟩ := h.caps.sd
  obtain ⟨x2, k2, e2⟩ := h.shifts.sd
  refine ⟨x1, k1, x2, k2, ?_⟩
  obtain ⟨a, b, c, i1, i2⟩ := d
  obtain rfl : a = m.id := h.id
  obtain rfl : b = m.sweeps := h.sweeps
  obtain rfl : c = m.rate := h.rate
  dsimp only at e1 e2
  rw [e1, e2]
end Go.Proofs.Ytkhaemjoekfhiaa
namespace Go.Sx.Plt
open Go.Proofs.Ytkhaemjoekfhiaa (mslF_keys psF tkF psF_snoc tkF_snoc)
theorem machsBad_of : ∀ {l : List Mach} {met : List Int} {i : Nat}, (l.map Mach.id).Nodup → (∀ m ∈ l, m.id ∉ met ∧ rightM m) → machsBad met i l = none
  | [], _, _, _, _ => rfl
  | m :: r, met, i, hn, h => by
    rw [List.map_cons, List.nodup_cons] at hn
    rw [machsBad, if_pos (h m List.mem_cons_self)]
    refine machsBad_of hn.2 fun x hx => ⟨fun hm => ?_, (h x (List.mem_cons_of_mem _ hx)).2⟩
    rcases List.mem_append.1 hm with hm | hm
    · exact (h x (List.mem_cons_of_mem _ hx)).1 hm
    · simp at hm
      exact hn.1 (List.mem_map.2 ⟨x, hx, hm⟩)
theorem itemsBad_of : ∀ {l : List Item} {met : List Int} {i : Nat}, (l.map Item.id).Nodup → (∀ m ∈ l, m.id ∉ met ∧ m.ok) → itemsBad met i l = none
  | [], _, _, _, _ => rfl
  | m :: r, met, i, hn, h => by
    rw [List.map_cons, List.nodup_cons] at hn
    rw [itemsBad, if_pos ⟨(h m List.mem_cons_self).2, (h m List.mem_cons_self).1⟩]
    refine itemsBad_of hn.2 fun x hx => ⟨fun hm => ?_, (h x (List.mem_cons_of_mem _ hx)).2⟩
    rcases List.mem_append.1 hm with hm | hm
    · exact (h x (List.mem_cons_of_mem _ hx)).1 hm
    · simp at hm
      exact hn.1 (List.mem_map.2 ⟨x, hx, hm⟩)
theorem passesBad_of {msl : List (Int × Int)} : ∀ {l : List Pass} {ps tk : List (Int × Int)} {i : Nat}, (∀ (j : Nat) (y : Pass), l[j]? = some y → passOk msl (ps ++ psF msl (l.take j)) (tk ++ tkF (l.take j)) y) → passesBad msl ps tk i l = none
  | [], _, _, _, _ => rfl
  | a :: r, ps, tk, i, h => by
    have h0 : passOk msl ps tk a := by have := h 0 a rfl; simpa [psF, tkF] using this
    rw [passesBad, if_pos h0]
    refine passesBad_of fun j y hy => ?_
    have := h (j + 1) y (by simpa using hy)
    simpa [psF, tkF, List.append_assoc] using this
theorem validF_of {p : Plant} (hs : p.ms.length ≤ 20 ∧ p.items.length ≤ 2000 ∧ p.passes.length ≤ 60) (h1 : (p.ms.map Mach.id).Nodup) (h2 : ∀ m ∈ p.ms, rightM m) (h3 : (p.items.map Item.id).Nodup) (h4 : ∀ x ∈ p.items, x.ok)
    (h5 : ∀ (j : Nat) (y : Pass), p.passes[j]? = some y → passOk (mslF p.ms) (psF (mslF p.ms) (p.passes.take j)) (tkF (p.passes.take j)) y) : validF p = (0, 0) := by
  unfold validF
  rw [if_neg (by omega), machsBad_of h1 fun m hm => ⟨by simp, h2 m hm⟩]
  dsimp only
  rw [itemsBad_of h3 fun x hx => ⟨by simp, h4 x hx⟩]
  dsimp only
  rw [passesBad_of fun j y hy => by simpa using h5 j y hy]
theorem wrongS_of {b : Int} : ∀ {l : List Sh} {i : Nat} {b : Int}, (∀ (j : Nat) (s : Sh), l[j]? = some s → s.f < s.t ∧ s.t ≤ 1051898399 ∧ (j = 0 → b ≤ s.f) ∧ ∀ s', l[j + 1]? = some s' → s.t ≤ s'.f) → wrongS b i l = none
  | [], _, _, _ => rfl
  | s :: r, i, b, h => by
    obtain ⟨h1, h2, h3, h4⟩ := h 0 s rfl
    rw [wrongS, if_pos ⟨h3 rfl, h1, h2⟩]
    refine wrongS_of (b := s.t) fun j s' hs' => ?_
    obtain ⟨g1, g2, _, g4⟩ := h (j + 1) s' (by simpa using hs')
    refine ⟨g1, g2, fun hj => ?_, fun s'' hs'' => g4 s'' (by simpa using hs'')⟩
    subst hj
    exact h4 s' (by simpa using hs')
/-! ## what built makes -/
theorem bMach_id {x : Sk} {j : Nat} {m : Mach} (h : (bMs x)[j]? = some m) : j < (1 + nb x.ms 0 % 3).toNat ∧ m = bMach x.ms x.shs j := by
  obtain ⟨h1, h2⟩ := List.getElem?_eq_some_iff.1 h
  unfold bMs bMsN at h1 h2
  simp at h1 h2
  exact ⟨by simpa using h1, h2.symm⟩
theorem bMs_len (x : Sk) : 1 ≤ (bMs x).length ∧ (bMs x).length ≤ 3 := by
  have := nb_bd x.ms 0
  unfold bMs
  rw [bMsN_len]; omega
theorem bMs_nodup (x : Sk) : ((bMs x).map Mach.id).Nodup := by
  unfold bMs bMsN
  rw [List.map_map]
  refine List.Pairwise.map _ (R := fun a b => a ≠ b) (fun a b hab e => hab ?_) List.nodup_range
  simp only [Function.comp, bMach] at e
  omega
theorem bShs_ok (S : List UInt8) (i n : Nat) (hn : n ≤ 200) : wrongS 0 0 (bShs S i n) = none := by
  refine wrongS_of (b := 0) fun j s hs => ?_
  obtain ⟨h1, h2⟩ := List.getElem?_eq_some_iff.1 hs
  rw [bShs_len] at h1
  have e : s = bSh S i j := by rw [← h2]; simp [bShs]
  subst e
  have hb := bT_bd S i j
  have h3 := nb_bd S (i + j + 2)
  refine ⟨by unfold bSh; dsimp only; omega, by unfold bSh; dsimp only; omega, fun _ => hb.1, fun s' hs' => ?_⟩
  obtain ⟨g1, g2⟩ := List.getElem?_eq_some_iff.1 hs'
  have e : s' = bSh S i (j + 1) := by rw [← g2]; simp [bShs]
  subst e
  have h4 := nb_bd S (i + j + 3)
  unfold bSh
  dsimp only
  rw [show bT S i (j + 1) = bT S i j + 1 + nb S (i + j + 2) % 12 + nb S (i + j + 3) % 5 from rfl]
  omega
theorem bCaps_ok (M : List UInt8) (i n : Nat) (hn : 1 ≤ n ∧ n ≤ 64) : Srt.capsOk (bCaps M i n) := by
  refine ⟨by rw [bCaps_len]; exact hn, fun c hc => ?_⟩
  obtain ⟨k, _, rfl⟩ := List.mem_map.1 hc
  have := nb_bd M (i + k + 4)
  omega
/-- A machine that built makes, at any rate. -/
theorem bMach_right (M S : List UInt8) (i : Nat) (hi : i < 3) {r : Int} (hr : 1 ≤ r ∧ r ≤ 1000) : rightM { bMach M S i with rate := r } := by
  have h3 := nb_bd M (i + 3)
  have h1 := nb_bd M (i + 1)
  have h4 := nb_bd S (i + 1)
  have hc := bCaps_ok M i (1 + nb M (i + 3) % 4).toNat (by omega)
  refine ⟨by unfold idOk bMach; dsimp only; omega, hr, ?_, ?_⟩
  · show (Srt.runF (bCaps M i (1 + nb M (i + 3) % 4).toNat) (nb M (i + 1) % 4) []).2 = 0
    rw [Srt.runF_ok hc (by omega) ⟨by simp, by simp, by simp⟩]
  · show (allowedF [] (bShs S i (2 + nb S (i + 1) % 4).toNat)).2 = 0
    unfold allowedF
    rw [if_neg (by rw [bShs_len]; simp; omega)]
    simp only [wrongJ]
    rw [bShs_ok _ _ _ (by omega)]
theorem bIs_nodup (x : Sk) : ((bIs x).map Item.id).Nodup := by
  unfold bIs bIsN
  rw [List.map_map]
  refine List.Pairwise.map _ (R := fun a b => a ≠ b) (fun a b hab e => hab ?_) List.nodup_range
  simp only [Function.comp, bItem] at e
  omega
theorem bIs_ok (x : Sk) : ∀ y ∈ bIs x, y.ok := fun y hy => by
  obtain ⟨k, hk, rfl⟩ := List.mem_map.1 hy
  have hk := List.mem_range.1 hk
  have : k < 40 := by omega
  have := (x.its.getD k 0).toNat_lt
  unfold Item.ok idOk bItem
  dsimp only
  omega
end Go.Sx.Plt
namespace Go.Sx.Plt
open Go.Proofs.Ytkhaemjoekfhiaa (mslF_keys psF tkF psF_snoc tkF_snoc)
theorem srcs_of {ps : List (Int × Int)} : ∀ {l tk : List (Int × Int)}, l.Nodup → (∀ s ∈ l, s ∉ tk ∧ srcOk ps s) → srcsOk ps tk l
  | [], _, _, _ => trivial
  | a :: r, tk, hn, h => by
    rw [List.nodup_cons] at hn
    obtain ⟨h1, h2⟩ := h a List.mem_cons_self
    refine ⟨⟨h2, h1⟩, srcs_of hn.2 fun s hs => ⟨fun hm => ?_, (h s (List.mem_cons_of_mem _ hs)).2⟩⟩
    rcases List.mem_append.1 hm with hm | hm
    · exact (h s (List.mem_cons_of_mem _ hs)).1 hm
    · simp at hm; subst hm; exact hn.1 hs
theorem rows_of {n : Int} : ∀ {l : List Row} {met : List Int}, (l.map Row.stop).Nodup → (∀ e ∈ l, e.stop ∉ met ∧ 0 ≤ e.st ∧ e.st < n) → rowsOk n met l
  | [], _, _, _ => trivial
  | a :: r, met, hn, h => by
    rw [List.map_cons, List.nodup_cons] at hn
    refine ⟨h a List.mem_cons_self, rows_of hn.2 fun s hs => ⟨fun hm => ?_, (h s (List.mem_cons_of_mem _ hs)).2⟩⟩
    rcases List.mem_append.1 hm with hm | hm
    · exact (h s (List.mem_cons_of_mem _ hs)).1 hm
    · simp at hm; exact hn.1 (List.mem_map.2 ⟨s, hs, hm⟩)
theorem bPick_perm (n : Nat) : ∀ (l : List (Int × Int)) (k : Nat) (a b : List (Int × Int)), ((bPick n k a b l).1 ++ (bPick n k a b l).2).Perm (a ++ b ++ l)
  | [], k, a, b => by simp [bPick]
  | s :: r, k, a, b => by
    rw [bPick]
    split
    · refine (bPick_perm n r (k + 1) _ _).trans ?_
      rw [List.append_assoc a [s], List.append_assoc a b, List.append_assoc a]
      refine List.Perm.append_left a ?_
      rw [List.singleton_append, List.cons_append]
      exact List.perm_middle.symm
    · refine (bPick_perm n r (k + 1) _ _).trans ?_
      rw [List.append_assoc, List.append_assoc, List.append_assoc, List.singleton_append]
theorem bTab_mem {n c m : Nat} {e : Row} (h : e ∈ bTab n c m) : ∃ s, s < m ∧ s ≠ n % 16 ∧ e = ⟨s, (((n + s) % c : Nat) : Int)⟩ := by
  obtain ⟨s, hs, rfl⟩ := List.mem_map.1 h
  rw [List.mem_filter] at hs
  exact ⟨s, List.mem_range.1 hs.1, by simpa using hs.2, rfl⟩
theorem bTab_len (n c m : Nat) : (bTab n c m).length ≤ m := by
  unfold bTab
  rw [List.length_map]
  exact Nat.le_trans (List.length_filter_le _ _) (by simp)
theorem bUn_len (its : List Item) (n i m : Nat) : (bUn its n i m).length ≤ m := by
  unfold bUn
  rw [List.length_map]
  exact Nat.le_trans (List.length_filter_le _ _) (by simp)
theorem bTab_nodup (n c m : Nat) : ((bTab n c m).map Row.stop).Nodup := by
  unfold bTab
  rw [List.map_map]
  refine List.Pairwise.map _ (R := fun a b => a ≠ b) (fun a b hab e => hab ?_) (List.Pairwise.filter _ List.nodup_range)
  simp only [Function.comp] at e
  omega
/-- What is true of the first i passes, and of what they leave. -/
structure BI (ms : List Mach) (its : List Item) (P : List UInt8) (i : Nat) : Prop where
  nd : ((bAt ms its P i).1 ++ tkF (bAt ms its P i).2).Nodup
  src : ∀ s ∈ (bAt ms its P i).1 ++ tkF (bAt ms its P i).2, srcOk (psF (mslF ms) (bAt ms its P i).2) s ∧ (s.1 = 0 → s.2 ≤ min i 3)
  ids : ∀ (j : Nat) (y : Pass), (bAt ms its P i).2[j]? = some y → y.id = 20 - j
  pok : ∀ (j : Nat) (y : Pass), (bAt ms its P i).2[j]? = some y → passOk (mslF ms) (psF (mslF ms) ((bAt ms its P i).2.take j)) (tkF ((bAt ms its P i).2.take j)) y
theorem key_ids {msl : List (Int × Int)} {l : List Pass} {i : Nat} (hl : l.length = i) (hids : ∀ (j : Nat) (y : Pass), l[j]? = some y → y.id = 20 - j) {id n : Int} (h : asF id (psF msl l) = some n) : ∃ j : Nat, j < i ∧ id = 20 - j := by
  obtain ⟨j, hj⟩ := asF_some h
  rw [psF, List.getElem?_map] at hj
  cases hy : l[j]? with
  | none => rw [hy] at hj; cases hj
  | some y =>
    rw [hy] at hj
    simp only [Option.map_some, Option.some.injEq, Prod.mk.injEq] at hj
    exact ⟨j, by have := (List.getElem?_eq_some_iff.1 hy).1; omega, by rw [← hj.1]; exact hids j y hy⟩
theorem srcOk_mono {ps : List (Int × Int)} {q : Int × Int} {s : Int × Int} (h : srcOk ps s) : srcOk (ps ++ [q]) s := by
  unfold srcOk at h ⊢
  by_cases h0 : s.1 = 0
  · rw [if_pos h0] at h ⊢; exact h
  · rw [if_neg h0] at h ⊢
    cases ho : asF s.1 ps with
    | none => rw [ho] at h; exact h.elim
    | some n => rw [ho] at h; rw [asF_app, ho]; exact h
theorem BI.zero (ms : List Mach) (its : List Item) (P : List UInt8) : BI ms its P 0 := ⟨by simp [bAt, tkF], by simp [bAt, tkF], by simp [bAt], by simp [bAt]⟩
theorem BI.step {ms : List Mach} {its : List Item} {P : List UInt8} {i : Nat} (h : BI ms its P i) (hi : i < 6) (hm : 1 ≤ ms.length) (hn : (ms.map Mach.id).Nodup) (hc : ∀ m ∈ ms, 1 ≤ m.caps.length) (hl : its.length ≤ 2000) : BI ms its P (i + 1) := by
  obtain ⟨nd, src, ids, pok⟩ := h
  have hlen := bAt_len ms its P i
  have e1 : (bAt ms its P (i + 1)).1 = bNext ms (P.getD i 0).toNat i (bAt ms its P i).1 := rfl
  have e2 : (bAt ms its P (i + 1)).2 = (bAt ms its P i).2 ++ [bPass ms its (P.getD i 0).toNat i (bAt ms its P i).1] := rfl
  have hn8 := (P.getD i 0).toNat_lt
  generalize (P.getD i 0).toNat = n at e1 e2 hn8
  generalize (bAt ms its P i).1 = left at *
  generalize (bAt ms its P i).2 = pss at *
  obtain ⟨m, hmm, hmd⟩ : ∃ m, m ∈ ms ∧ bMd ms n = m := by
    have hlt : n % ms.length < ms.length := Nat.mod_lt _ (by omega)
    exact ⟨ms[n % ms.length], List.getElem_mem _, by unfold bMd; simp [List.getD_eq_getElem?_getD, hlt]⟩
  have hcm := hc m hmm
  have hmsl : asF m.id (mslF ms) = some (m.caps.length : Int) := by
    obtain ⟨j, hj⟩ := List.getElem?_of_mem hmm
    exact asF_at (j := j) (by rw [mslF_keys]; exact hn) (by rw [mslF, List.getElem?_map, hj]; rfl)
  -- what is left, with the new batch
  have hL : (bLeft i left ++ tkF pss).Nodup ∧ ∀ s ∈ bLeft i left ++ tkF pss, srcOk (psF (mslF ms) pss) s ∧ (s.1 = 0 → s.2 ≤ min (i + 1) 3) := by
    unfold bLeft
    by_cases h3 : i < 3
    · rw [if_pos h3]
      refine ⟨?_, fun s hs => ?_⟩
      · rw [List.append_assoc, List.singleton_append]
        refine List.perm_middle.nodup_iff.2 (List.nodup_cons.2 ⟨fun hh => ?_, nd⟩)
        have := (src _ hh).2 rfl
        dsimp only at this
        omega
      · rw [List.append_assoc, List.singleton_append] at hs
        rcases List.mem_cons.1 (List.perm_middle.mem_iff.1 hs) with rfl | hs
        · refine ⟨?_, fun _ => by dsimp only; omega⟩
          unfold srcOk
          rw [if_pos rfl]
          dsimp only; omega
        · exact ⟨(src s hs).1, fun h0 => by have := (src s hs).2 h0; omega⟩
    · rw [if_neg h3]
      exact ⟨nd, fun s hs => ⟨(src s hs).1, fun h0 => by have := (src s hs).2 h0; omega⟩⟩
  have hpp := bPick_perm n (bLeft i left) 0 [] []
  rw [List.nil_append, List.nil_append] at hpp
  have hy : bPass ms its n i left = ⟨20 - i, m.id, (n : Int) / 8 % 16, (bPick n 0 [] [] (bLeft i left)).1, bTab n m.caps.length 8, bUn its n i its.length⟩ := by unfold bPass; rw [hmd]
  have hx : bNext ms n i left = (bPick n 0 [] [] (bLeft i left)).2 ++ bSrcs (20 - i) m.caps.length := by unfold bNext; rw [hmd]
  generalize (bPick n 0 [] [] (bLeft i left)).1 = fr at *
  generalize (bPick n 0 [] [] (bLeft i left)).2 = re at *
  generalize bLeft i left = left2 at *
  rw [hx] at e1
  rw [hy] at e2
  clear hx hy
  have hnew : asF (20 - (i : Int)) (psF (mslF ms) pss) = none := by
    cases ho : asF (20 - (i : Int)) (psF (mslF ms) pss) with
    | none => rfl
    | some q =>
      obtain ⟨j, hj, e⟩ := key_ids hlen ids ho
      omega
  have hold : ∀ s ∈ left2 ++ tkF pss, s.1 ≠ 20 - (i : Int) := fun s hs e => by
    have h1 := (hL.2 s hs).1
    unfold srcOk at h1
    rw [if_neg (by omega), e, hnew] at h1
    exact h1
  have hps2 : psF (mslF ms) (pss ++ [⟨20 - i, m.id, (n : Int) / 8 % 16, fr, bTab n m.caps.length 8, bUn its n i its.length⟩]) = psF (mslF ms) pss ++ [(20 - (i : Int), (m.caps.length : Int))] := by simp [psF, hmsl]
  have htk2 : tkF (pss ++ [⟨20 - i, m.id, (n : Int) / 8 % 16, fr, bTab n m.caps.length 8, bUn its n i its.length⟩]) = tkF pss ++ fr := by simp [tkF]
  have hfr : ∀ s ∈ fr, s ∈ left2 := fun s hs => hpp.mem_iff.1 (List.mem_append.2 (.inl hs))
  have hre : ∀ s ∈ re, s ∈ left2 := fun s hs => hpp.mem_iff.1 (List.mem_append.2 (.inr hs))
  have hsrcs : ∀ s ∈ bSrcs (20 - (i : Int)) m.caps.length, s.1 = 20 - (i : Int) ∧ 0 ≤ s.2 ∧ s.2 < m.caps.length := fun s hs => by
    obtain ⟨k, hk, rfl⟩ := List.mem_map.1 hs
    have := List.mem_range.1 hk
    exact ⟨rfl, by dsimp only; omega, by dsimp only; omega⟩
  have hsn : (bSrcs (20 - (i : Int)) m.caps.length).Nodup := by
    unfold bSrcs
    refine List.Pairwise.map _ (R := fun a b => a ≠ b) (fun a b hab e => hab ?_) List.nodup_range
    have := (Prod.mk.inj e).2
    omega
  refine ⟨?_, fun s hs => ?_, fun j y hy => ?_, fun j y hy => ?_⟩
  · rw [e1, e2, htk2]
    have hperm : (re ++ bSrcs (20 - (i : Int)) m.caps.length ++ (tkF pss ++ fr)).Perm (bSrcs (20 - (i : Int)) m.caps.length ++ (left2 ++ tkF pss)) := by
      have p1 : (re ++ bSrcs (20 - (i : Int)) m.caps.length ++ (tkF pss ++ fr)).Perm (bSrcs (20 - (i : Int)) m.caps.length ++ (re ++ (tkF pss ++ fr))) := by
        rw [← List.append_assoc (bSrcs _ _)]
        exact List.Perm.append_right _ List.perm_append_comm
      refine p1.trans (List.Perm.append_left _ ?_)
      have p2 : (re ++ (tkF pss ++ fr)).Perm (re ++ (fr ++ tkF pss)) := List.Perm.append_left _ List.perm_append_comm
      refine p2.trans ?_
      rw [← List.append_assoc]
      exact List.Perm.append_right _ (List.perm_append_comm.trans hpp)
    refine hperm.nodup_iff.2 (List.nodup_append.2 ⟨hsn, hL.1, fun a ha b hb e => ?_⟩)
    subst e
    exact hold a hb (hsrcs a ha).1
  · rw [e1, e2, htk2] at hs
    rw [e2, hps2]
    rcases List.mem_append.1 hs with hs | hs
    · rcases List.mem_append.1 hs with hs | hs
      · have := hL.2 s (List.mem_append.2 (.inl (hre s hs)))
        exact ⟨srcOk_mono this.1, this.2⟩
      · obtain ⟨g1, g2, g3⟩ := hsrcs s hs
        refine ⟨?_, fun h0 => by omega⟩
        unfold srcOk
        rw [if_neg (by omega), g1, asF_app, hnew]
        simp only [asF, if_true, Option.none_or]
        exact ⟨g2, g3⟩
    · have hs' : s ∈ left2 ++ tkF pss := by
        rcases List.mem_append.1 hs with hs | hs
        · exact List.mem_append.2 (.inr hs)
        · exact List.mem_append.2 (.inl (hfr s hs))
      exact ⟨srcOk_mono (hL.2 s hs').1, (hL.2 s hs').2⟩
  · rw [e2] at hy
    by_cases hj : j < pss.length
    · rw [List.getElem?_append_left hj] at hy; exact ids j y hy
    · have : j = pss.length := by have h := (List.getElem?_eq_some_iff.1 hy).1; rw [List.length_append, List.length_singleton] at h; omega
      subst this
      rw [List.getElem?_append_right (Nat.le_refl _), Nat.sub_self] at hy
      cases hy
      dsimp only; omega
  · rw [e2] at hy ⊢
    by_cases hj : j < pss.length
    · rw [List.getElem?_append_left hj] at hy
      rw [List.take_append_of_le_length (by omega)]
      exact pok j y hy
    · have : j = pss.length := by have h := (List.getElem?_eq_some_iff.1 hy).1; rw [List.length_append, List.length_singleton] at h; omega
      subst this
      rw [List.getElem?_append_right (Nat.le_refl _), Nat.sub_self] at hy
      cases hy
      rw [List.take_append_of_le_length (Nat.le_refl _), List.take_length]
      have hfn : fr.Nodup := by
        have := (List.nodup_append.1 hL.1).1
        exact (List.nodup_append.1 (hpp.nodup_iff.2 this)).1
      refine ⟨⟨⟨hnew, by rw [hmsl]; rfl⟩, by unfold idOk; dsimp only; omega, by dsimp only; omega⟩, srcs_of hfn fun s hs => ⟨fun hh => ?_, (hL.2 s (List.mem_append.2 (.inl (hfr s hs)))).1⟩, ⟨?_, ?_⟩, ?_⟩
      · exact (List.nodup_append.1 hL.1).2.2 s (hfr s hs) s hh rfl
      · have := bTab_len n m.caps.length 8
        dsimp only; omega
      · have := bUn_len its n i its.length
        dsimp only; omega
      · dsimp only
        rw [hmsl, Option.getD_some]
        refine rows_of (bTab_nodup _ _ _) fun e he => ⟨by simp, ?_⟩
        obtain ⟨s, _, _, rfl⟩ := bTab_mem he
        have : (n + s) % m.caps.length < m.caps.length := Nat.mod_lt _ (by omega)
        dsimp only; omega
theorem BI.all {ms : List Mach} {its : List Item} {P : List UInt8} (hm : 1 ≤ ms.length) (hn : (ms.map Mach.id).Nodup) (hc : ∀ m ∈ ms, 1 ≤ m.caps.length) (hl : its.length ≤ 2000) : ∀ i, i ≤ 6 → BI ms its P i
  | 0, _ => BI.zero ms its P
  | i + 1, h => BI.step (BI.all hm hn hc hl i (by omega)) (by omega) hm hn hc hl
/-- Plants that built makes, with machines of other rates. -/
def rated (ms : List Mach) (rs : List Int) : List Mach := ms.zipWith (fun m r => { m with rate := r }) rs
theorem built_bi (x : Sk) : BI (bMs x) (bIs x) x.ps (min x.ps.length 6) :=
  BI.all (bMs_len x).1 (bMs_nodup x) (fun m hm => (bMs_caps hm).1) (by unfold bIs; rw [bIsN_len]; omega) _ (by omega)
theorem built_valid (x : Sk) : validF (built x) = (0, 0) := by
  have hb := built_bi x
  have hl := bMs_len x
  refine validF_of ⟨?_, ?_, ?_⟩ (bMs_nodup x) (fun m hm => ?_) (bIs_nodup x) (bIs_ok x) hb.pok
  · show (bMs x).length ≤ 20; omega
  · show (bIs x).length ≤ 2000; unfold bIs; rw [bIsN_len]; omega
  · show (bAt (bMs x) (bIs x) x.ps (min x.ps.length 6)).2.length ≤ 60; rw [bAt_len]; omega
  · obtain ⟨j, hj⟩ := List.getElem?_of_mem (show m ∈ bMs x from hm)
    obtain ⟨hj1, rfl⟩ := bMach_id hj
    have h0 := nb_bd x.ms 0
    have h2 := nb_bd x.ms (j + 2)
    exact bMach_right x.ms x.shs j (by omega) (r := 1 + nb x.ms (j + 2) % 5) (by omega)
end Go.Sx.Plt
