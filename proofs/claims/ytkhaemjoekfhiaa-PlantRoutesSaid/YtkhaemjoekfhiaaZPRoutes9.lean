/- A part of the proofs of this seat: a small logic of walks, plain laws, and what some of the program's functions compute, shown by walks through their code. Conditions: the hypotheses that each theorem names. -/
import Derived.Test.YtkhaemjoekfhiaaZPRoutes3
import Derived.Test.YtkhaemjoekfhiaaZPRoutes8
import Derived.Test.YtkhaemjoekfhiaaZPRoutes6
set_option linter.unusedSimpArgs false
set_option linter.unusedVariables false
set_option linter.unusedSectionVars false
namespace Go.Sx.Plt
/-- The plant of the chapter. -/
def exPl (t : Int) : Plant := ⟨[⟨1, 0, 2, [5, 5], [⟨0, 1⟩, ⟨10, t⟩]⟩], [⟨1, 7, 1⟩, ⟨2, 6, 1⟩, ⟨3, 5, 1⟩, ⟨4, 7, 1⟩, ⟨5, 6, 1⟩],
  [⟨3, 1, 0, [(0, 1)], [⟨5, 0⟩, ⟨6, 1⟩, ⟨7, 0⟩], []⟩, ⟨4, 1, 0, [(3, 0), (3, 1)], [⟨5, 0⟩, ⟨6, 0⟩, ⟨7, 1⟩], []⟩]⟩
theorem ex20_valid : validF (exPl 20) = (0, 0) := by decide +kernel
theorem ex14_valid : validF (exPl 14) = (0, 0) := by decide +kernel
theorem ex20_w1 : whereF (exPl 20) 5 11 = ((1, 0, 1), 0) := by decide +kernel
theorem ex20_w2 : whereF (exPl 20) 5 12 = ((2, 3, 1), 0) := by decide +kernel
theorem ex20_w3 : whereF (exPl 20) 5 14 = ((2, 3, 1), 0) := by decide +kernel
theorem ex20_w4 : whereF (exPl 20) 5 15 = ((2, 4, 0), 0) := by decide +kernel
theorem ex14_w : whereF (exPl 14) 5 99 = ((2, 3, 1), 0) := by decide +kernel
theorem ex20_r0 : ∃ r, (playF (exPl 20))[0]? = some r ∧ r.start = 0 ∧ r.fin = 12 ∧ r.pass = 3 ∧ r.slices = [(0, 1), (10, 12)] ∧ r.res.stackers = [[1, 3, 4], [2, 5]] := ⟨(playF (exPl 20)).headD ⟨0, 0, 0, [], [], Srt.M.new 0 0⟩, by kernel_rfl, by kernel_rfl, by kernel_rfl, by kernel_rfl, by kernel_rfl, by kernel_rfl⟩
theorem ex20_r1 : ∃ r, (playF (exPl 20))[1]? = some r ∧ r.start = 12 ∧ r.fin = 15 ∧ r.items = [1, 3, 4, 2, 5] ∧ r.res.stackers = [[3, 2, 5], [1, 4]] := ⟨(playF (exPl 20)).tail.headD ⟨0, 0, 0, [], [], Srt.M.new 0 0⟩, by kernel_rfl, by kernel_rfl, by kernel_rfl, by kernel_rfl, by kernel_rfl⟩
theorem ex14_r0 : ∃ r, (playF (exPl 14))[0]? = some r ∧ r.fin = 12 := ⟨(playF (exPl 14)).headD ⟨0, 0, 0, [], [], Srt.M.new 0 0⟩, by kernel_rfl, by kernel_rfl⟩
theorem ex14_r1 : ∃ r, (playF (exPl 14))[1]? = some r ∧ r.start = -1 ∧ r.fin = -1 ∧ r.items = [] := ⟨(playF (exPl 14)).tail.headD ⟨0, 0, 0, [], [], Srt.M.new 0 0⟩, by kernel_rfl, by kernel_rfl, by kernel_rfl, by kernel_rfl⟩
end Go.Sx.Plt
namespace Go.Proofs.Ytkhaemjoekfhiaa
open Go Go.Sx Go.RowKit
attribute [local irreducible] WL WC WQ WR WB WF QB St Exit.then Exit.inBlock Exit.noGoto bodyPost roundPost beginK YR RG BM Calls B AgainD MeetD
/-! ## the plant of the chapter -/
def exQ (b1 b2 b3 b4 b5 b6 b7 b8 b9 : Nat) : PlD := ⟨(some ⟨b3, 0, none⟩, 1, 1), (some ⟨b4, 0, none⟩, 5, 5), (some ⟨b9, 0, none⟩, 2, 2),
  [⟨1, 0, 2, (some ⟨b1, 0, none⟩, 2, 2), (some ⟨b2, 0, none⟩, 2, 2)⟩], [⟨3, 1, 0, (some ⟨b5, 0, none⟩, 1, 1), (some ⟨b6, 0, none⟩, 3, 3), nsd⟩, ⟨4, 1, 0, (some ⟨b7, 0, none⟩, 2, 2), (some ⟨b8, 0, none⟩, 3, 3), nsd⟩]⟩
def exN (b1 b2 b3 b4 b5 b6 b7 b8 b9 : Nat) (t : Int) : List Ent := [⟨b9, Ce [.int .i64 3, .int .i64 1, .int .i64 0, slc b5 1, slc b6 3, .slice none 0 0, .int .i64 4, .int .i64 1, .int .i64 0, slc b7 2, slc b8 3, .slice none 0 0] 58, true⟩, ⟨b8, Ce [.int .i64 5, .int .i64 0, .int .i64 6, .int .i64 0, .int .i64 7, .int .i64 1] 76, true⟩, ⟨b7, Ce [.int .i64 3, .int .i64 0, .int .i64 3, .int .i64 1] 64, true⟩, ⟨b6, Ce [.int .i64 5, .int .i64 0, .int .i64 6, .int .i64 1, .int .i64 7, .int .i64 0] 76, true⟩, ⟨b5, Ce [.int .i64 0, .int .i64 1] 64, true⟩, ⟨b4, Ce [.int .i64 1, .int .i64 7, .int .i64 1, .int .i64 2, .int .i64 6, .int .i64 1, .int .i64 3, .int .i64 5, .int .i64 1, .int .i64 4, .int .i64 7, .int .i64 1, .int .i64 5, .int .i64 6, .int .i64 1] 38, true⟩, ⟨b3, Ce [.int .i64 1, .int .i64 0, .int .i64 2, slc b1 2, slc b2 2] 61, true⟩, ⟨b2, Ce [.int .i64 0, .int .i64 1, .int .i64 10, .int .i64 t] 70, true⟩, ⟨b1, Ce [.int .i64 5, .int .i64 5] 3, true⟩]
theorem exN_own {b1 b2 b3 b4 b5 b6 b7 b8 b9 : Nat} {t : Int} : ∀ x ∈ exN b1 b2 b3 b4 b5 b6 b7 b8 b9 t, x.own = true := by simp [exN]
theorem ex_plV {b1 b2 b3 b4 b5 b6 b7 b8 b9 : Nat} {t : Int} : Shw (exN b1 b2 b3 b4 b5 b6 b7 b8 b9 t) (fun w => PlV w (exQ b1 b2 b3 b4 b5 b6 b7 b8 b9) (Plt.exPl t)) := fun w0 w L L0 hr hw => by
  have hw2 : Rep w0 w (exN b1 b2 b3 b4 b5 b6 b7 b8 b9 t ++ L0) := hw.perm hr
  unfold exN at hw2
  simp only [List.cons_append, List.nil_append] at hw2
  refine ⟨SV.lit (n := 1) [(⟨1, 0, 2, (some ⟨b1, 0, none⟩, 2, 2), (some ⟨b2, 0, none⟩, 2, 2)⟩ : MD)] encMD_len hw2 (by exact aT_) rfl rfl (by decide), SV.lit (n := 5) (Plt.exPl t).items encItem_len hw2 (by exact aT_) rfl rfl (by decide), SV.lit (n := 2) [(⟨3, 1, 0, (some ⟨b5, 0, none⟩, 1, 1), (some ⟨b6, 0, none⟩, 3, 3), nsd⟩ : PD), ⟨4, 1, 0, (some ⟨b7, 0, none⟩, 2, 2), (some ⟨b8, 0, none⟩, 3, 3), nsd⟩] encPD_len hw2 (by exact aT_) rfl rfl (by decide), rfl, rfl, fun i d m hd hm => ?_, fun i d y hd hy => ?_⟩
  · rcases i with _ | i
    · simp [exQ] at hd
      simp [Plt.exPl] at hm
      subst hd hm
      exact ⟨rfl, rfl, rfl, SV.lit (n := 2) [5, 5] encI_len hw2 (by exact aT_) rfl rfl (by decide), SV.lit (n := 2) [⟨0, 1⟩, ⟨10, t⟩] encSh_len hw2 (by exact aT_) rfl rfl (by decide)⟩
    · simp [exQ] at hd
  · rcases i with _ | _ | i
    · simp [exQ] at hd
      simp [Plt.exPl] at hy
      subst hd hy
      exact ⟨rfl, rfl, rfl, SV.lit (n := 1) [((0 : Int), (1 : Int))] encSrc_len hw2 (by exact aT_) rfl rfl (by decide), SV.lit (n := 3) [⟨5, 0⟩, ⟨6, 1⟩, ⟨7, 0⟩] encRow_len hw2 (by exact aT_) rfl rfl (by decide), SV.nil⟩
    · simp [exQ] at hd
      simp [Plt.exPl] at hy
      subst hd hy
      exact ⟨rfl, rfl, rfl, SV.lit (n := 2) [((3 : Int), (0 : Int)), (3, 1)] encSrc_len hw2 (by exact aT_) rfl rfl (by decide), SV.lit (n := 3) [⟨5, 0⟩, ⟨6, 0⟩, ⟨7, 1⟩] encRow_len hw2 (by exact aT_) rfl rfl (by decide), SV.nil⟩
    · simp [exQ] at hd
theorem example_calls (w : World) : Calls Try.prog 35 #[] w fun e w' => ∃ v N, e = .returned v ∧ (∃ b1 b2 b3 b4 b5 b6 b7 b8 b9, v = plV (exQ b1 b2 b3 b4 b5 b6 b7 b8 b9) ∧ N = exN b1 b2 b3 b4 b5 b6 b7 b8 b9 20) ∧ Rep w w' N ∧ ∀ x ∈ N, x.own = true := by
  refine f_enter0 Try.func35 rfl Try.ntmps35 rfl (Rep.start w) ?_
  repeat' (first | ((with_reducible apply o_alloc); exact rfl; intro _) | ((with_reducible apply gdo_store); first | refine wo_store1 (h := ?_) | refine wo_storeA (h := ?_)) | ((with_reducible apply gdo_build); first | refine wo_build (h := ?_)) | ((with_reducible apply gdo_buildSlice); refine wo_buildSlice (h := fun _ => ?_)) | ((with_reducible first | apply c_seq | apply c_block | apply c_region | apply c_nil | apply c_ret | apply c_exit | apply c_skip)) | ((with_reducible first | apply e_then | apply e_then_ret | apply e_then_exit | apply e_in | apply e_in_ret | apply e_in_same)))
  apply r_body; apply res1 Try.results35; exact rV_; intro w' hw
  rename_i b0 b1 b2 b3 b4 b5 b6 b7 b8 b9
  exact ⟨_, exN b1 b2 b3 b4 b5 b6 b7 b8 b9 20, rfl, ⟨b1, b2, b3, b4, b5, b6, b7, b8, b9, rfl, rfl⟩, hw.sub (by unfold exN; exact hS_), exN_own⟩
theorem atp_calls {q : PlD} {p : Plt.Plant} {x t kd ps nu : Int} (hc : Plt.validF p = (0, 0)) (he : Plt.whereF p x t = ((kd, ps, nu), 0)) (w : World) (h : PlV w q p) : Calls Try.prog 36 #[plV q, .int .i64 x, .int .i64 t, .agg #[.int .u8 kd, .int .i64 ps, .int .i64 nu]] w fun e w' => e = .returned (.bool true) ∧ Below w.heap.size w w' := by
  obtain ⟨⟨a1, n1, c1⟩, ⟨a2, n2, c2⟩, ⟨a3, n3, c3⟩, ds, ys⟩ := q
  refine f_enter4 Try.func36 rfl Try.ntmps36 rfl (Rep.start w) ?_
  repeat' (first | ((first | ((with_reducible apply o_call_pure (f := 13)); exact rfl) | ((with_reducible apply q_call_pure (f := 13)); exact rfl; kernel_rfl; exact rfl; exact sJ_)); exact eV_; exact (fun w hw => where_calls (Plt.calm_of hc) he w (h.keep hw (by exact aO_)))) | ((with_reducible first | apply o_move | apply o_assign); exact rfl; exact rfl) | ((with_reducible apply gdo_load); first | refine wo_load (h := ?_) | refine wo_loadAll (h := ?_) | refine wo_loadC (h := ?_) | refine wo_ldV (h := ?_) | refine wo_ldF (h := ?_)) | ((with_reducible first | apply o_eql | apply o_extract); exact rfl; exact rfl; exact rfl) | ((with_reducible apply gdo_binOp_eql); refine wo_eql_s (h := ?_)) | ((with_reducible apply o_pick_t); exact rfl; exact tT_; exact rfl; exact rfl) | ((with_reducible apply o_alloc); exact rfl; intro _) | ((with_reducible apply o_box); exact rfl; exact rfl; exact rfl; intro _) | ((with_reducible apply gdo_store); first | refine wo_store1 (h := ?_) | refine wo_storeA (h := ?_)) | ((with_reducible first | apply g_run); exact rfl; exact gG_) | ((with_reducible first | apply c_seq | apply c_block | apply c_region | apply c_nil | apply c_ret | apply c_exit | apply c_skip)) | ((with_reducible first | apply e_then | apply e_then_ret | apply e_then_exit | apply e_in | apply e_in_ret | apply e_in_same)))
  apply r_body; apply res1 Try.results36; exact rV_; intro w' hw
  refine ⟨?_, hw.below (by simp)⟩
  simp
end Go.Proofs.Ytkhaemjoekfhiaa
namespace Go.Proofs.Ytkhaemjoekfhiaa
open Go Go.Sx Go.RowKit
attribute [local irreducible] WL WC WQ WR WB WF QB St Exit.then Exit.inBlock Exit.noGoto bodyPost roundPost beginK YR RG BM Calls B AgainD MeetD
/-! ## lists -/
theorem same_yes {va vb : Value} {xs ys : List Int} (he : xs = ys) (w : World) (ha : SV w 1 encI va xs) (hb : SV w 1 encI vb ys) : Calls Try.prog 20 #[va, vb] w fun e w' => e = .returned (.bool true) ∧ Below w.heap.size w w' := by
  have := sameInts_calls w ha hb; rwa [B_true he] at this
theorem LL.two' {α : Type} {E : TypeId} {k : Nat} {enc : α → List Value} {x y : List α} {L : List Ent} {b b' : Nat} {w0 w : World} (henc : ∀ x, (enc x).length = k) (hw : Rep w0 w L) (h1 : At L b (Ce (x.flatMap enc) E)) (h2 : At L b' (Ce (y.flatMap enc) E)) (hx : x.length ≤ 1000000) (hy : y.length ≤ 1000000) : SL w k enc [(some ⟨b, 0, none⟩, x.length, x.length), (some ⟨b', 0, none⟩, y.length, y.length)] [x, y] := by
  refine ⟨rfl, fun i s xs hs hxs => ?_⟩
  match i with
  | 0 =>
    cases hs; cases hxs
    exact SV.lit x henc hw h1 rfl rfl (show x.length ≤ _ from by omega)
  | 1 =>
    cases hs; cases hxs
    exact SV.lit y henc hw h2 rfl rfl (show y.length ≤ _ from by omega)
  | i + 2 => simp at hs
set_option maxHeartbeats 4000000 in
theorem lists_yes {va vb : Value} {ss tt : List SD} {xss yss : List (List Int)} (he : xss = yss) (w : World) (ha : SV w 1 encS va ss) (hal : SL w 1 encI ss xss) (hb : SV w 1 encS vb tt) (hbl : SL w 1 encI tt yss) : Calls Try.prog 24 #[va, vb] w fun e w' => e = .returned (.bool true) ∧ Below w.heap.size w w' := by
  subst he
  obtain ⟨a1, c1, rfl, hc1, hop1⟩ := ha.open
  obtain ⟨a2, c2, rfl, hc2, hop2⟩ := hb.open
  have hl1 := hal.1
  have hl2 := hbl.1
  refine f_enter2 Try.func24 rfl Try.ntmps24 rfl (Rep.start w) ?_
  repeat' (first | ((with_reducible first | apply o_move | apply o_assign | apply o_not_d); exact rfl; exact rfl) | ((with_reducible first | apply o_lss | apply o_neq); exact rfl; exact rfl; exact rfl) | ((with_reducible apply o_len); infer_instance; exact rfl; exact rfl) | ((with_reducible first | apply c_seq | apply c_block | apply c_region | apply c_nil | apply c_ret | apply c_exit | apply c_skip)) | ((with_reducible apply c_cond_f); exact rfl; exact fF_) | ((with_reducible first | apply e_then | apply e_then_ret | apply e_then_exit | apply e_in | apply e_in_ret | apply e_in_same)))
  all_goals try (exfalso; omega)
  apply c_loop (σ := Nat) (Fs := fun i => [(5, .int .i64 i), (0, .slice a1 ss.length c1), (1, .slice a2 tt.length c2)])
    (Ls := fun i => []) (I := fun i => i ≤ ss.length) (μ := fun i => ss.length - i) (s0 := 0)
  · exact Nat.zero_le _
  · exact fS_
  · exact hS_
  intro i hi
  have hi : i ≤ ss.length := hi
  by_cases hlt : i < ss.length
  · obtain ⟨⟨sa, sn, sc⟩, hx⟩ : ∃ s, ss[i]? = some s := ⟨_, List.getElem?_eq_getElem hlt⟩
    obtain ⟨⟨ta, tn, tc⟩, hy⟩ : ∃ s, tt[i]? = some s := ⟨_, List.getElem?_eq_getElem (by omega)⟩
    obtain ⟨xs, hz⟩ : ∃ s, xss[i]? = some s := ⟨_, List.getElem?_eq_getElem (by omega)⟩
    obtain ⟨b, off, cc, e, fz, rfl, hk, hp⟩ := hop1 (by omega)
    obtain ⟨b', off', cc', e', fz', rfl, hk', hp'⟩ := hop2 (by omega)
    have q1 := hp.one hx rfl
    have q2 := hp'.one hy rfl
    have v1 := hal.2 i _ _ hx hz
    have v2 := hbl.2 i _ _ hy hz
    repeat' (first | ((first | ((with_reducible apply o_call_pure (f := 20)); exact rfl) | ((with_reducible apply q_call_pure (f := 20)); exact rfl; kernel_rfl; exact rfl; exact sJ_)); exact eV_; exact (fun w hw => same_yes rfl w (v1.keep hw (by exact aO_)) (v2.keep hw (by exact aO_)))) | ((with_reducible first | apply o_move | apply o_assign | apply o_not_d); exact rfl; exact rfl) | ((with_reducible first | apply o_lss | apply o_neq); exact rfl; exact rfl; exact rfl) | ((with_reducible apply o_add); exact rfl; exact rfl; exact rfl; (constructor <;> omega)) | ((with_reducible apply o_len); infer_instance; exact rfl; exact rfl) | ((with_reducible first | apply c_seq | apply c_block | apply c_region | apply c_nil | apply c_ret | apply c_exit | apply c_skip)) | ((with_reducible apply c_cond_t); exact rfl; exact tT_) | ((with_reducible apply c_cond_f); exact rfl; exact fF_) | ((with_reducible first | apply e_then | apply e_then_ret | apply e_then_exit | apply e_in | apply e_in_ret | apply e_in_same)) | ((with_reducible apply c_regionD0 (id := 6) []); kernel_rfl; kernel_rfl) | ((with_reducible apply q_nil); try simp only [ents, List.cons_append, List.nil_append]) | ((with_reducible first | apply q_move | apply q_assign); exact rfl; exact rfl) | ((with_reducible apply gdq_load); first | refine wq_load (h := ?_) | refine wq_loadAll (h := ?_) | refine wq_loadC (h := ?_) | refine wq_ldF (h := ?_)) | ((with_reducible apply q_not); exact rfl; exact rfl) | ((with_reducible apply q_idx); infer_instance; infer_instance; exact rfl; exact rfl; (first | exact rfl | omega); exact rfl; (first | assumption | omega | decide)))
    refine l_again (i + 1) (show i + 1 ≤ ss.length by omega) (show ss.length - (i + 1) < ss.length - i by omega) ?_ ?_
    · exact fS_
    · exact hS_
  repeat' (first | ((with_reducible first | apply o_move | apply o_assign | apply o_not_d); exact rfl; exact rfl) | ((with_reducible first | apply o_lss | apply o_neq); exact rfl; exact rfl; exact rfl) | ((with_reducible apply o_len); infer_instance; exact rfl; exact rfl) | ((with_reducible first | apply c_seq | apply c_block | apply c_region | apply c_nil | apply c_ret | apply c_exit | apply c_skip)) | ((with_reducible apply c_cond_f); exact rfl; exact fF_) | ((with_reducible first | apply e_then | apply e_then_ret | apply e_then_exit | apply e_in | apply e_in_ret | apply e_in_same)))
  all_goals try (exfalso; omega)
  apply r_body; apply res1 Try.results24; exact rV_; intro w' hw
  exact ⟨rfl, hw.below (by simp)⟩
/-! ## runs, taken apart -/
end Go.Proofs.Ytkhaemjoekfhiaa
namespace Go.Sx
theorem SV.ptr {α : Type} {w : World} {k m c : Nat} {a : Option Addr} {enc : α → List Value} {xs : List α} {x : α} {i : Nat} (h : SV w k enc (.slice a m c) xs) (hx : xs[i]? = some x) : ∃ b off, a = some ⟨b, off, none⟩ := by
  obtain ⟨_, _, e1, _, hop⟩ := h.open
  cases e1
  obtain ⟨b, off, _, _, _, e2, _⟩ := hop (by have := (List.getElem?_eq_some_iff.1 hx).1; omega)
  exact ⟨b, off, e2⟩
theorem SV.sd {α : Type} {w : World} {k : Nat} {d : SD} {enc : α → List Value} {xs : List α} (h : SV w k enc (sdV d) xs) : ∃ a c, d = (a, xs.length, c) := by
  obtain ⟨a, n, c⟩ := d
  obtain ⟨_, _, e1, _, _⟩ := h.open
  cases e1
  exact ⟨a, c, rfl⟩
end Go.Sx
namespace Go.Proofs.Ytkhaemjoekfhiaa
open Go Go.Sx Go.RowKit
theorem RunsV.at {w : World} {a : Option Addr} {n c : Nat} {ds : List RD} {runs : List Plt.Run} {i : Nat} {r : Plt.Run} (h : RunsV w (.slice a n c) ds runs) (hr : runs[i]? = some r) : ∃ b off x1 k1 x2 k2 x3 n3 k3 x4 n4 k4 x5 k5 x6 k6 x7 n7 k7, a = some ⟨b, off, none⟩ ∧
    ds[i]? = some ⟨r.pass, r.start, r.fin, (x1, r.items.length, k1), (x2, r.slices.length, k2), (x3, n3, k3), (x4, n4, k4), (x5, r.res.over.length, k5), (x6, r.res.rej.length, k6), (x7, n7, k7)⟩ ∧ n3 = r.res.stackers.length ∧
    ∀ (j : Nat) (u : Value), ([.int .i64 r.pass, .int .i64 r.start, .int .i64 r.fin, .slice x1 r.items.length k1, .slice x2 r.slices.length k2, .slice x3 n3 k3, .slice x4 n4 k4, .slice x5 r.res.over.length k5, .slice x6 r.res.rej.length k6, .slice x7 n7 k7] : List Value)[j]? = some u →
      (encRD ⟨r.pass, r.start, r.fin, (x1, r.items.length, k1), (x2, r.slices.length, k2), (x3, n3, k3), (x4, n4, k4), (x5, r.res.over.length, k5), (x6, r.res.rej.length, k6), (x7, n7, k7)⟩)[j]? = some u := by
  obtain ⟨hs, hl, hh⟩ := h
  obtain ⟨d, hd⟩ : ∃ d, ds[i]? = some d := ⟨_, List.getElem?_eq_getElem (by have := (List.getElem?_eq_some_iff.1 hr).1; omega)⟩
  obtain ⟨b, off, rfl⟩ := hs.ptr hd
  have hv := hh i d r hd hr
  obtain ⟨x1, k1, e1⟩ := hv.items.sd
  obtain ⟨x2, k2, e2⟩ := hv.slices.sd
  rw [Plt.slc3_len] at e2
  obtain ⟨ss, h3, h4⟩ := hv.stk
  obtain ⟨x3, k3, e3⟩ := h3.sd
  rw [h4.1] at e3
  obtain ⟨x5, k5, e5⟩ := hv.ov.sd
  obtain ⟨x6, k6, e6⟩ := hv.rj.sd
  obtain ⟨p, s, f, i1, i2, i3, ⟨x4, n4, k4⟩, i5, i6, ⟨x7, n7, k7⟩⟩ := d
  refine ⟨b, off, x1, k1, x2, k2, x3, _, k3, x4, n4, k4, x5, k5, x6, k6, x7, n7, k7, rfl, ?_, rfl, fun _ _ h => h⟩
  rw [hd]
  obtain rfl : p = r.pass := hv.pass
  obtain rfl : s = r.start := hv.start
  obtain rfl : f = r.fin := hv.fin
  dsimp only at e1 e2 e3 e5 e6
  rw [e1, e2, e3, e5, e6]
theorem RunV.stk' {w : World} {r : Plt.Run} {d : RD} {x3 : Option Addr} {n3 k3 : Nat} (h : RunV w d r) (hd : d.stk = (x3, n3, k3)) : ∃ ss, SV w 1 encS (.slice x3 n3 k3) ss ∧ SL w 1 encI ss r.res.stackers := by
  obtain ⟨ss, h1, h2⟩ := h.stk
  rw [hd] at h1
  exact ⟨ss, h1, h2⟩
theorem lists_is {va vb : Value} {tt : List SD} {xss yss : List (List Int)} (he : xss = yss) (w : World) (ha : ∃ ss, SV w 1 encS va ss ∧ SL w 1 encI ss xss) (hb : SV w 1 encS vb tt) (hbl : SL w 1 encI tt yss) : Calls Try.prog 24 #[va, vb] w fun e w' => e = .returned (.bool true) ∧ Below w.heap.size w w' := by
  obtain ⟨ss, h1, h2⟩ := ha
  exact lists_yes he w h1 h2 hb hbl
end Go.Proofs.Ytkhaemjoekfhiaa
namespace Go.Proofs.Ytkhaemjoekfhiaa
open Go Go.Sx Go.RowKit
section
variable {P : Program} {n : Nat} {D : List Deferred} {w0 : World} {F : List (Nat × Value)} {L : List Ent} {J J1 : Made} {Φ : Specs} {X : Act → World → Prop} {kq : Nat} {ops : Array Oper} {Q : Exit → Act → World → Prop} {r : Option Nat}
variable {d : Tmp} {ty : TypeId} {pos : String} {af : Array Edge} {rest : List Oper}
variable {x y : Operand} {m l v : Int} {t u : TypeId} (hx : ev F x = some (.int .i64 m)) (hy : ev F y = some (.int .i64 l))
include hx hy
theorem o_addE (e : m + l = v) (hr : -9223372036854775808 ≤ v ∧ v ≤ 9223372036854775807) (hd : Nat.ble (d + 1) n = true) (h : St n D w0 ((d, .int .i64 v) :: F) L (WL r P ops Q rest)) : St n D w0 F L (WL r P ops Q (⟨some d, .binOp .add t x y u, ty, pos, af, none⟩ :: rest)) := by subst e; exact o_add hx hy hd hr h
theorem o_remE (e : m % l = v) (hr : 0 ≤ m ∧ 0 < l) (hd : Nat.ble (d + 1) n = true) (h : St n D w0 ((d, .int .i64 v) :: F) L (WL r P ops Q rest)) : St n D w0 F L (WL r P ops Q (⟨some d, .binOp .rem t x y u, ty, pos, af, none⟩ :: rest)) := by subst e; exact o_rem hx hy hd hr h
end
section
variable {P : Program} {n : Nat} {D : List Deferred} {w0 : World} {F : List (Nat × Value)} {L : List Ent} {J J1 : Made} {Φ : Specs} {X : Act → World → Prop} {kq : Nat} {ops : Array Oper} {Q : Exit → Act → World → Prop} {r : Option Nat}
variable {d : Tmp} {ty : TypeId} {pos : String} {af : Array Edge} {rest : List Oper}
theorem o_conv8 {x : Operand} {m : Int} {s t : TypeId} {ds : TypeDesc} (hS : TU P s ds) (hT : TU P t (.int .i64)) (hx : ev F x = some (.int .u8 m)) (hr : 0 ≤ m ∧ m ≤ 255) (hd : Nat.ble (d + 1) n = true)
    (h : St n D w0 ((d, .int .i64 m) :: F) L (WL r P ops Q rest)) : St n D w0 F L (WL r P ops Q (⟨some d, .convert s t x, ty, pos, af, none⟩ :: rest)) :=
  o_conv (ds := ds) hx hd (by rw [wrap_in (by omega) (by omega)]; exact h)
end
end Go.Proofs.Ytkhaemjoekfhiaa
namespace Go.Sx.Plt
/-- The minutes that some shifts have from a time on. -/
def haveF (t : Int) : List Sh → Int
  | [] => 0
  | s :: r => max 0 (s.t - max s.f t) + haveF t r
/-- A number of a list, again from the beginning. -/
def nb (l : List UInt8) (i : Nat) : Int := if l.length = 0 then 0 else ((l.getD (i % l.length) 0).toNat : Int)
theorem nb_bd (l : List UInt8) (i : Nat) : 0 ≤ nb l i ∧ nb l i ≤ 255 := by
  unfold nb
  split
  · omega
  · have := (l.getD (i % l.length) 0).toNat_lt
    omega
end Go.Sx.Plt
namespace Go.Proofs.Ytkhaemjoekfhiaa
open Go Go.Sx Go.RowKit
attribute [local irreducible] WL WC WQ WR WB WF QB St Exit.then Exit.inBlock Exit.noGoto bodyPost roundPost beginK YR RG BM Calls B AgainD MeetD
/-! ## the laws' small words -/
def encB (x : UInt8) : List Value := [.int .u8 (x.toNat : Int)]
theorem encB_len : ∀ x, (encB x).length = 1 := fun _ => rfl
end Go.Proofs.Ytkhaemjoekfhiaa
namespace Go.Sx.Plt
structure Sk where
  ms : List UInt8
  shs : List UInt8
  its : List UInt8
  ps : List UInt8
def bCaps (M : List UInt8) (i n : Nat) : List Int := (List.range n).map fun k => 1 + nb M (i + k + 4) % 12
def bT (S : List UInt8) (i : Nat) : Nat → Int
  | 0 => nb S i % 7
  | k + 1 => bT S i k + 1 + nb S (i + k + 2) % 12 + nb S (i + k + 3) % 5
theorem bT_bd (S : List UInt8) (i : Nat) : ∀ k, 0 ≤ bT S i k ∧ bT S i k ≤ 6 + 16 * k
  | 0 => by have := nb_bd S i; rw [bT]; omega
  | k + 1 => by have := bT_bd S i k; have := nb_bd S (i + k + 2); have := nb_bd S (i + k + 3); rw [bT]; omega
def bSh (S : List UInt8) (i k : Nat) : Sh := ⟨bT S i k, bT S i k + 1 + nb S (i + k + 2) % 12⟩
def bShs (S : List UInt8) (i n : Nat) : List Sh := (List.range n).map (bSh S i)
def bMach (M S : List UInt8) (i : Nat) : Mach := ⟨5 + i, nb M (i + 1) % 4, 1 + nb M (i + 2) % 5, bCaps M i (1 + nb M (i + 3) % 4).toNat, bShs S i (2 + nb S (i + 1) % 4).toNat⟩
def bMsN (M S : List UInt8) (n : Nat) : List Mach := (List.range n).map (bMach M S)
def bMs (x : Sk) : List Mach := bMsN x.ms x.shs (1 + nb x.ms 0 % 3).toNat
def bItem (I : List UInt8) (i : Nat) : Item := ⟨100 - 2 * i, ((I.getD i 0).toNat : Int) % 9, 1 + ((I.getD i 0).toNat : Int) / 9 % 3⟩
def bIsN (I : List UInt8) (n : Nat) : List Item := (List.range n).map (bItem I)
def bIs (x : Sk) : List Item := bIsN x.its (min x.its.length 40)
/-- What a pass takes of what is left, and what it leaves. -/
def bPick (n : Nat) : Nat → List (Int × Int) → List (Int × Int) → List (Int × Int) → List (Int × Int) × List (Int × Int)
  | _, a, b, [] => (a, b)
  | k, a, b, s :: r => if ((n : Int) / 2 ^ (k % 5) % 2 = 1 ∨ k = 0) ∧ a.length < 5 then bPick n (k + 1) (a ++ [s]) b r else bPick n (k + 1) a (b ++ [s]) r
def bTab (n c m : Nat) : List Row := ((List.range m).filter fun s => s ≠ n % 16).map fun (s : Nat) => ⟨s, (((n + s) % c : Nat) : Int)⟩
def bUn (its : List Item) (n i m : Nat) : List Int := ((List.range m).filter fun k => (k * n + i) % 11 = 10).map fun k => (its.getD k ⟨0, 0, 0⟩).id
def bSrcs (id : Int) (c : Nat) : List (Int × Int) := (List.range c).map fun (k : Nat) => (id, (k : Int))
def bMd (ms : List Mach) (n : Nat) : Mach := ms.getD (n % ms.length) ⟨0, 0, 0, [], []⟩
def bLeft (i : Nat) (left : List (Int × Int)) : List (Int × Int) := if i < 3 then left ++ [(0, (i : Int) + 1)] else left
def bPass (ms : List Mach) (its : List Item) (n i : Nat) (left : List (Int × Int)) : Pass :=
  ⟨20 - i, (bMd ms n).id, (n : Int) / 8 % 16, (bPick n 0 [] [] (bLeft i left)).1, bTab n (bMd ms n).caps.length 8, bUn its n i its.length⟩
def bNext (ms : List Mach) (n i : Nat) (left : List (Int × Int)) : List (Int × Int) := (bPick n 0 [] [] (bLeft i left)).2 ++ bSrcs (20 - i) (bMd ms n).caps.length
def bAt (ms : List Mach) (its : List Item) (P : List UInt8) : Nat → List (Int × Int) × List Pass
  | 0 => ([], [])
  | i + 1 => (bNext ms (P.getD i 0).toNat i (bAt ms its P i).1, (bAt ms its P i).2 ++ [bPass ms its (P.getD i 0).toNat i (bAt ms its P i).1])
def built (x : Sk) : Plant := ⟨bMs x, bIs x, (bAt (bMs x) (bIs x) x.ps (min x.ps.length 6)).2⟩
theorem bAt_len (ms : List Mach) (its : List Item) (P : List UInt8) : ∀ i, (bAt ms its P i).2.length = i
  | 0 => rfl
  | i + 1 => by rw [bAt, List.length_append, bAt_len ms its P i]; rfl
end Go.Sx.Plt
namespace Go.Proofs.Ytkhaemjoekfhiaa
open Go Go.Sx Go.RowKit
end Go.Proofs.Ytkhaemjoekfhiaa
namespace Go.Proofs.Ytkhaemjoekfhiaa
open Go Go.Sx Go.RowKit
attribute [local irreducible] WL WC WQ WR WB WF QB St Exit.then Exit.inBlock Exit.noGoto bodyPost roundPost beginK YR RG BM Calls B AgainD MeetD
/-! ## built -/
/-- What built leaves. -/
def builtφ (p : Plt.Plant) (v : Value) (N : List Ent) : Prop := ∃ am cm ai ci ap cp ds ys NM NI NP NX, v = .agg #[.slice am p.ms.length cm, .slice ai p.items.length ci, .slice ap p.passes.length cp] ∧
  (OW 61 5 encMD (.slice am p.ms.length cm) ds NM ∧ OW 38 3 encItem (.slice ai p.items.length ci) p.items NI ∧ OW 58 6 encPD (.slice ap p.passes.length cp) ys NP) ∧ (N = NM ++ (NI ++ (NP ++ NX)) ∧ ∀ x ∈ NX, x.own = true) ∧ (ds.length = p.ms.length ∧ ys.length = p.passes.length) ∧
  Shw NX (fun w => ∀ (i : Nat) (d : MD) (m : Plt.Mach), ds[i]? = some d → p.ms[i]? = some m → MachV w d m) ∧ Shw NX (fun w => ∀ (i : Nat) (d : PD) (y : Plt.Pass), ys[i]? = some d → p.passes[i]? = some y → PassV w d y)
end Go.Proofs.Ytkhaemjoekfhiaa
namespace Go.Sx.Plt
def minI (l : List (Int × Int)) (q : Int) : Int := match minuteF l q with
  | some m => m
  | none => -1
/-- How often an item is in one of the stackers. -/
def inSt (x nu : Int) (l : List (List Int)) : Int := if 0 ≤ nu then ((l.getD nu.toNat []).count x : Int) else 0
def allN (r : Run) (x : Int) (n : Nat) : Int := (r.res.over.count x : Int) + (r.res.rej.count x : Int) + (((r.res.stackers.take n).flatten.count x : Nat) : Int)
def hereF (r : Run) (x kd nu : Int) : Int := if kd = 2 then inSt x nu r.res.stackers else if kd = 3 then (r.res.over.count x : Int) else if kd = 4 then (r.res.rej.count x : Int) else 0
/-- What holds says of a place. -/
def holdsF (r : Run) (x kd ps nu : Int) : Prop := (allN r x r.res.stackers.length = 1 ∧ hereF r x kd nu = 1) ∧ ps = r.pass ∧ (nu = 0 ∨ kd = 2)
instance (r : Run) (x kd ps nu : Int) : Decidable (holdsF r x kd ps nu) := by unfold holdsF; infer_instance
end Go.Sx.Plt
namespace Go.Proofs.Ytkhaemjoekfhiaa
open Go Go.Sx Go.RowKit
attribute [local irreducible] WL WC WQ WR WB WF QB St Exit.then Exit.inBlock Exit.noGoto bodyPost roundPost beginK YR RG BM Calls B AgainD MeetD
/-! ## the minute of an item, and where a run holds it -/
end Go.Proofs.Ytkhaemjoekfhiaa
namespace Go.Sx.Plt
def ofBatch (items : List Item) (s : Int × Int) : List Int := if s.1 = 0 then (items.filter fun x => x.batch = s.2).map Item.id else []
def ofRun (s : Int × Int) (r : Run) : List Int := if r.pass = s.1 ∧ s.2 < r.res.stackers.length then r.res.stackers.getD s.2.toNat [] else []
/-- The items of some sources. -/
def takenF (items : List Item) (runs : List Run) (src : List (Int × Int)) : List Int := src.flatMap fun s => ofBatch items s ++ runs.flatMap (ofRun s)
theorem flatMap_snoc' {α β : Type} {l : List α} {j : Nat} {x : α} (f : α → List β) (h : l[j]? = some x) : (l.take (j + 1)).flatMap f = (l.take j).flatMap f ++ f x := by
  rw [Go.Proofs.Ytkhaemjoekfhiaa.take_snoc h, List.flatMap_append]; simp
end Go.Sx.Plt
namespace Go.Proofs.Ytkhaemjoekfhiaa
open Go Go.Sx Go.RowKit
attribute [local irreducible] WL WC WQ WR WB WF QB St Exit.then Exit.inBlock Exit.noGoto bodyPost roundPost beginK YR RG BM Calls B AgainD MeetD
/-! ## the items of the sources of a pass -/
def takenφ (T : List Int) (v : Value) (N : List Ent) : Prop := ∃ a c, v = .slice a T.length c ∧ OW 3 1 encI (.slice a T.length c) T N
end Go.Proofs.Ytkhaemjoekfhiaa
namespace Go.Sx.Plt
open Go.Proofs.Ytkhaemjoekfhiaa (mslF_keys psF tkF psF_snoc tkF_snoc)
theorem machsBad_of : ∀ {l : List Mach} {met : List Int} {i : Nat}, (l.map Mach.id).Nodup → (∀ m ∈ l, m.id ∉ met ∧ rightM m) → machsBad met i l = none
  | [], _, _, _, _ => rfl
  | m :: r, met, i, hn, h => by
    rw [List.map_cons, List.nodup_cons] at hn
    rw [machsBad, if_pos (h m List.mem_cons_self)]
    refine machsBad_of hn.2 fun x hx => ⟨fun hm => ?_, (h x (List.mem_cons_of_mem _ hx)).2⟩
    rcases List.mem_append.1 hm with hm | hm
    · exact (h x (List.mem_cons_of_mem _ hx)).1 hm
    · simp at hm
      exact hn.1 (List.mem_map.2 ⟨x, hx, hm⟩)
theorem itemsBad_of : ∀ {l : List Item} {met : List Int} {i : Nat}, (l.map Item.id).Nodup → (∀ m ∈ l, m.id ∉ met ∧ m.ok) → itemsBad met i l = none
  | [], _, _, _, _ => rfl
  | m :: r, met, i, hn, h => by
    rw [List.map_cons, List.nodup_cons] at hn
    rw [itemsBad, if_pos ⟨(h m List.mem_cons_self).2, (h m List.mem_cons_self).1⟩]
    refine itemsBad_of hn.2 fun x hx => ⟨fun hm => ?_, (h x (List.mem_cons_of_mem _ hx)).2⟩
    rcases List.mem_append.1 hm with hm | hm
    · exact (h x (List.mem_cons_of_mem _ hx)).1 hm
    · simp at hm
      exact hn.1 (List.mem_map.2 ⟨x, hx, hm⟩)
theorem passesBad_of {msl : List (Int × Int)} : ∀ {l : List Pass} {ps tk : List (Int × Int)} {i : Nat}, (∀ (j : Nat) (y : Pass), l[j]? = some y → passOk msl (ps ++ psF msl (l.take j)) (tk ++ tkF (l.take j)) y) → passesBad msl ps tk i l = none
  | [], _, _, _, _ => rfl
  | a :: r, ps, tk, i, h => by
    have h0 : passOk msl ps tk a := by have := h 0 a rfl; simpa [psF, tkF] using this
    rw [passesBad, if_pos h0]
    refine passesBad_of fun j y hy => ?_
    have := h (j + 1) y (by simpa using hy)
    simpa [psF, tkF, List.append_assoc] using this
theorem validF_of {p : Plant} (hs : p.ms.length ≤ 20 ∧ p.items.length ≤ 2000 ∧ p.passes.length ≤ 60) (h1 : (p.ms.map Mach.id).Nodup) (h2 : ∀ m ∈ p.ms, rightM m) (h3 : (p.items.map Item.id).Nodup) (h4 : ∀ x ∈ p.items, x.ok)
    (h5 : ∀ (j : Nat) (y : Pass), p.passes[j]? = some y → passOk (mslF p.ms) (psF (mslF p.ms) (p.passes.take j)) (tkF (p.passes.take j)) y) : validF p = (0, 0) := by
  unfold validF
  rw [if_neg (by omega), machsBad_of h1 fun m hm => ⟨by simp, h2 m hm⟩]
  dsimp only
  rw [itemsBad_of h3 fun x hx => ⟨by simp, h4 x hx⟩]
  dsimp only
  rw [passesBad_of fun j y hy => by simpa using h5 j y hy]
/-! ## what built makes -/
end Go.Sx.Plt
namespace Go.Sx.Plt
open Go.Proofs.Ytkhaemjoekfhiaa (mslF_keys psF tkF psF_snoc tkF_snoc)
theorem srcs_of {ps : List (Int × Int)} : ∀ {l tk : List (Int × Int)}, l.Nodup → (∀ s ∈ l, s ∉ tk ∧ srcOk ps s) → srcsOk ps tk l
  | [], _, _, _ => trivial
  | a :: r, tk, hn, h => by
    rw [List.nodup_cons] at hn
    obtain ⟨h1, h2⟩ := h a List.mem_cons_self
    refine ⟨⟨h2, h1⟩, srcs_of hn.2 fun s hs => ⟨fun hm => ?_, (h s (List.mem_cons_of_mem _ hs)).2⟩⟩
    rcases List.mem_append.1 hm with hm | hm
    · exact (h s (List.mem_cons_of_mem _ hs)).1 hm
    · simp at hm; subst hm; exact hn.1 hs
theorem rows_of {n : Int} : ∀ {l : List Row} {met : List Int}, (l.map Row.stop).Nodup → (∀ e ∈ l, e.stop ∉ met ∧ 0 ≤ e.st ∧ e.st < n) → rowsOk n met l
  | [], _, _, _ => trivial
  | a :: r, met, hn, h => by
    rw [List.map_cons, List.nodup_cons] at hn
    refine ⟨h a List.mem_cons_self, rows_of hn.2 fun s hs => ⟨fun hm => ?_, (h s (List.mem_cons_of_mem _ hs)).2⟩⟩
    rcases List.mem_append.1 hm with hm | hm
    · exact (h s (List.mem_cons_of_mem _ hs)).1 hm
    · simp at hm; exact hn.1 (List.mem_map.2 ⟨s, hs, hm⟩)
theorem bPick_perm (n : Nat) : ∀ (l : List (Int × Int)) (k : Nat) (a b : List (Int × Int)), ((bPick n k a b l).1 ++ (bPick n k a b l).2).Perm (a ++ b ++ l)
  | [], k, a, b => by simp [bPick]
  | s :: r, k, a, b => by
    rw [bPick]
    split
    · refine (bPick_perm n r (k + 1) _ _).trans ?_
      rw [List.append_assoc a [s], List.append_assoc a b, List.append_assoc a]
      refine List.Perm.append_left a ?_
      rw [List.singleton_append, List.cons_append]
      exact List.perm_middle.symm
    · refine (bPick_perm n r (k + 1) _ _).trans ?_
      rw [List.append_assoc, List.append_assoc, List.append_assoc, List.singleton_append]
theorem bTab_mem {n c m : Nat} {e : Row} (h : e ∈ bTab n c m) : ∃ s, s < m ∧ s ≠ n % 16 ∧ e = ⟨s, (((n + s) % c : Nat) : Int)⟩ := by
  obtain ⟨s, hs, rfl⟩ := List.mem_map.1 h
  rw [List.mem_filter] at hs
  exact ⟨s, List.mem_range.1 hs.1, by simpa using hs.2, rfl⟩
theorem bTab_len (n c m : Nat) : (bTab n c m).length ≤ m := by
  unfold bTab
  rw [List.length_map]
  exact Nat.le_trans (List.length_filter_le _ _) (by simp)
theorem bUn_len (its : List Item) (n i m : Nat) : (bUn its n i m).length ≤ m := by
  unfold bUn
  rw [List.length_map]
  exact Nat.le_trans (List.length_filter_le _ _) (by simp)
theorem bTab_nodup (n c m : Nat) : ((bTab n c m).map Row.stop).Nodup := by
  unfold bTab
  rw [List.map_map]
  refine List.Pairwise.map _ (R := fun a b => a ≠ b) (fun a b hab e => hab ?_) (List.Pairwise.filter _ List.nodup_range)
  simp only [Function.comp] at e
  omega
/-- What is true of the first i passes, and of what they leave. -/
structure BI (ms : List Mach) (its : List Item) (P : List UInt8) (i : Nat) : Prop where
  nd : ((bAt ms its P i).1 ++ tkF (bAt ms its P i).2).Nodup
  src : ∀ s ∈ (bAt ms its P i).1 ++ tkF (bAt ms its P i).2, srcOk (psF (mslF ms) (bAt ms its P i).2) s ∧ (s.1 = 0 → s.2 ≤ min i 3)
  ids : ∀ (j : Nat) (y : Pass), (bAt ms its P i).2[j]? = some y → y.id = 20 - j
  pok : ∀ (j : Nat) (y : Pass), (bAt ms its P i).2[j]? = some y → passOk (mslF ms) (psF (mslF ms) ((bAt ms its P i).2.take j)) (tkF ((bAt ms its P i).2.take j)) y
theorem key_ids {msl : List (Int × Int)} {l : List Pass} {i : Nat} (hl : l.length = i) (hids : ∀ (j : Nat) (y : Pass), l[j]? = some y → y.id = 20 - j) {id n : Int} (h : asF id (psF msl l) = some n) : ∃ j : Nat, j < i ∧ id = 20 - j := by
  obtain ⟨j, hj⟩ := asF_some h
  rw [psF, List.getElem?_map] at hj
  cases hy : l[j]? with
  | none => rw [hy] at hj; cases hj
  | some y =>
    rw [hy] at hj
    simp only [Option.map_some, Option.some.injEq, Prod.mk.injEq] at hj
    exact ⟨j, by have := (List.getElem?_eq_some_iff.1 hy).1; omega, by rw [← hj.1]; exact hids j y hy⟩
theorem srcOk_mono {ps : List (Int × Int)} {q : Int × Int} {s : Int × Int} (h : srcOk ps s) : srcOk (ps ++ [q]) s := by
  unfold srcOk at h ⊢
  by_cases h0 : s.1 = 0
  · rw [if_pos h0] at h ⊢; exact h
  · rw [if_neg h0] at h ⊢
    cases ho : asF s.1 ps with
    | none => rw [ho] at h; exact h.elim
    | some n => rw [ho] at h; rw [asF_app, ho]; exact h
theorem BI.zero (ms : List Mach) (its : List Item) (P : List UInt8) : BI ms its P 0 := ⟨by simp [bAt, tkF], by simp [bAt, tkF], by simp [bAt], by simp [bAt]⟩
theorem BI.step {ms : List Mach} {its : List Item} {P : List UInt8} {i : Nat} (h : BI ms its P i) (hi : i < 6) (hm : 1 ≤ ms.length) (hn : (ms.map Mach.id).Nodup) (hc : ∀ m ∈ ms, 1 ≤ m.caps.length) (hl : its.length ≤ 2000) : BI ms its P (i + 1) := by
  obtain ⟨nd, src, ids, pok⟩ := h
  have hlen := bAt_len ms its P i
  have e1 : (bAt ms its P (i + 1)).1 = bNext ms (P.getD i 0).toNat i (bAt ms its P i).1 := rfl
  have e2 : (bAt ms its P (i + 1)).2 = (bAt ms its P i).2 ++ [bPass ms its (P.getD i 0).toNat i (bAt ms its P i).1] := rfl
  have hn8 := (P.getD i 0).toNat_lt
  generalize (P.getD i 0).toNat = n at e1 e2 hn8
  generalize (bAt ms its P i).1 = left at *
  generalize (bAt ms its P i).2 = pss at *
  obtain ⟨m, hmm, hmd⟩ : ∃ m, m ∈ ms ∧ bMd ms n = m := by
    have hlt : n % ms.length < ms.length := Nat.mod_lt _ (by omega)
    exact ⟨ms[n % ms.length], List.getElem_mem _, by unfold bMd; simp [List.getD_eq_getElem?_getD, hlt]⟩
  have hcm := hc m hmm
  have hmsl : asF m.id (mslF ms) = some (m.caps.length : Int) := by
    obtain ⟨j, hj⟩ := List.getElem?_of_mem hmm
    exact asF_at (j := j) (by rw [mslF_keys]; exact hn) (by rw [mslF, List.getElem?_map, hj]; rfl)
  -- what is left, with the new batch
  have hL : (bLeft i left ++ tkF pss).Nodup ∧ ∀ s ∈ bLeft i left ++ tkF pss, srcOk (psF (mslF ms) pss) s ∧ (s.1 = 0 → s.2 ≤ min (i + 1) 3) := by
    unfold bLeft
    by_cases h3 : i < 3
    · rw [if_pos h3]
      refine ⟨?_, fun s hs => ?_⟩
      · rw [List.append_assoc, List.singleton_append]
        refine List.perm_middle.nodup_iff.2 (List.nodup_cons.2 ⟨fun hh => ?_, nd⟩)
        have := (src _ hh).2 rfl
        dsimp only at this
        omega
      · rw [List.append_assoc, List.singleton_append] at hs
        rcases List.mem_cons.1 (List.perm_middle.mem_iff.1 hs) with rfl | hs
        · refine ⟨?_, fun _ => by dsimp only; omega⟩
          unfold srcOk
          rw [if_pos rfl]
          dsimp only; omega
        · exact ⟨(src s hs).1, fun h0 => by have := (src s hs).2 h0; omega⟩
    · rw [if_neg h3]
      exact ⟨nd, fun s hs => ⟨(src s hs).1, fun h0 => by have := (src s hs).2 h0; omega⟩⟩
  have hpp := bPick_perm n (bLeft i left) 0 [] []
  rw [List.nil_append, List.nil_append] at hpp
  have hy : bPass ms its n i left = ⟨20 - i, m.id, (n : Int) / 8 % 16, (bPick n 0 [] [] (bLeft i left)).1, bTab n m.caps.length 8, bUn its n i its.length⟩ := by unfold bPass; rw [hmd]
  have hx : bNext ms n i left = (bPick n 0 [] [] (bLeft i left)).2 ++ bSrcs (20 - i) m.caps.length := by unfold bNext; rw [hmd]
  generalize (bPick n 0 [] [] (bLeft i left)).1 = fr at *
  generalize (bPick n 0 [] [] (bLeft i left)).2 = re at *
  generalize bLeft i left = left2 at *
  rw [hx] at e1
  rw [hy] at e2
  clear hx hy
  have hnew : asF (20 - (i : Int)) (psF (mslF ms) pss) = none := by
    cases ho : asF (20 - (i : Int)) (psF (mslF ms) pss) with
    | none => rfl
    | some q =>
      obtain ⟨j, hj, e⟩ := key_ids hlen ids ho
      omega
  have hold : ∀ s ∈ left2 ++ tkF pss, s.1 ≠ 20 - (i : Int) := fun s hs e => by
    have h1 := (hL.2 s hs).1
    unfold srcOk at h1
    rw [if_neg (by omega), e, hnew] at h1
    exact h1
  have hps2 : psF (mslF ms) (pss ++ [⟨20 - i, m.id, (n : Int) / 8 % 16, fr, bTab n m.caps.length 8, bUn its n i its.length⟩]) = psF (mslF ms) pss ++ [(20 - (i : Int), (m.caps.length : Int))] := by simp [psF, hmsl]
  have htk2 : tkF (pss ++ [⟨20 - i, m.id, (n : Int) / 8 % 16, fr, bTab n m.caps.length 8, bUn its n i its.length⟩]) = tkF pss ++ fr := by simp [tkF]
  have hfr : ∀ s ∈ fr, s ∈ left2 := fun s hs => hpp.mem_iff.1 (List.mem_append.2 (.inl hs))
  have hre : ∀ s ∈ re, s ∈ left2 := fun s hs => hpp.mem_iff.1 (List.mem_append.2 (.inr hs))
  have hsrcs : ∀ s ∈ bSrcs (20 - (i : Int)) m.caps.length, s.1 = 20 - (i : Int) ∧ 0 ≤ s.2 ∧ s.2 < m.caps.length := fun s hs => by
    obtain ⟨k, hk, rfl⟩ := List.mem_map.1 hs
    have := List.mem_range.1 hk
    exact ⟨rfl, by dsimp only; omega, by dsimp only; omega⟩
  have hsn : (bSrcs (20 - (i : Int)) m.caps.length).Nodup := by
    unfold bSrcs
    refine List.Pairwise.map _ (R := fun a b => a ≠ b) (fun a b hab e => hab ?_) List.nodup_range
    have := (Prod.mk.inj e).2
    omega
  refine ⟨?_, fun s hs => ?_, fun j y hy => ?_, fun j y hy => ?_⟩
  · rw [e1, e2, htk2]
    have hperm : (re ++ bSrcs (20 - (i : Int)) m.caps.length ++ (tkF pss ++ fr)).Perm (bSrcs (20 - (i : Int)) m.caps.length ++ (left2 ++ tkF pss)) := by
      have p1 : (re ++ bSrcs (20 - (i : Int)) m.caps.length ++ (tkF pss ++ fr)).Perm (bSrcs (20 - (i : Int)) m.caps.length ++ (re ++ (tkF pss ++ fr))) := by
        rw [← List.append_assoc (bSrcs _ _)]
        exact List.Perm.append_right _ List.perm_append_comm
      refine p1.trans (List.Perm.append_left _ ?_)
      have p2 : (re ++ (tkF pss ++ fr)).Perm (re ++ (fr ++ tkF pss)) := List.Perm.append_left _ List.perm_append_comm
      refine p2.trans ?_
      rw [← List.append_assoc]
      exact List.Perm.append_right _ (List.perm_append_comm.trans hpp)
    refine hperm.nodup_iff.2 (List.nodup_append.2 ⟨hsn, hL.1, fun a ha b hb e => ?_⟩)
    subst e
    exact hold a hb (hsrcs a ha).1
  · rw [e1, e2, htk2] at hs
    rw [e2, hps2]
    rcases List.mem_append.1 hs with hs | hs
    · rcases List.mem_append.1 hs with hs | hs
      · have := hL.2 s (List.mem_append.2 (.inl (hre s hs)))
        exact ⟨srcOk_mono this.1, this.2⟩
      · obtain ⟨g1, g2, g3⟩ := hsrcs s hs
        refine ⟨?_, fun h0 => by omega⟩
        unfold srcOk
        rw [if_neg (by omega), g1, asF_app, hnew]
        simp only [asF, if_true, Option.none_or]
        exact ⟨g2, g3⟩
    · have hs' : s ∈ left2 ++ tkF pss := by
        rcases List.mem_append.1 hs with hs | hs
        · exact List.mem_append.2 (.inr hs)
        · exact List.mem_append.2 (.inl (hfr s hs))
      exact ⟨srcOk_mono (hL.2 s hs').1, (hL.2 s hs').2⟩
  · rw [e2] at hy
    by_cases hj : j < pss.length
    · rw [List.getElem?_append_left hj] at hy; exact ids j y hy
    · have : j = pss.length := by have h := (List.getElem?_eq_some_iff.1 hy).1; rw [List.length_append, List.length_singleton] at h; omega
      subst this
      rw [List.getElem?_append_right (Nat.le_refl _), Nat.sub_self] at hy
      cases hy
      dsimp only; omega
  · rw [e2] at hy ⊢
    by_cases hj : j < pss.length
    · rw [List.getElem?_append_left hj] at hy
      rw [List.take_append_of_le_length (by omega)]
      exact pok j y hy
    · have : j = pss.length := by have h := (List.getElem?_eq_some_iff.1 hy).1; rw [List.length_append, List.length_singleton] at h; omega
      subst this
      rw [List.getElem?_append_right (Nat.le_refl _), Nat.sub_self] at hy
      cases hy
      rw [List.take_append_of_le_length (Nat.le_refl _), List.take_length]
      have hfn : fr.Nodup := by
        have := (List.nodup_append.1 hL.1).1
        exact (List.nodup_append.1 (hpp.nodup_iff.2 this)).1
      refine ⟨⟨⟨hnew, by rw [hmsl]; rfl⟩, by unfold idOk; dsimp only; omega, by dsimp only; omega⟩, srcs_of hfn fun s hs => ⟨fun hh => ?_, (hL.2 s (List.mem_append.2 (.inl (hfr s hs)))).1⟩, ⟨?_, ?_⟩, ?_⟩
      · exact (List.nodup_append.1 hL.1).2.2 s (hfr s hs) s hh rfl
      · have := bTab_len n m.caps.length 8
        dsimp only; omega
      · have := bUn_len its n i its.length
        dsimp only; omega
      · dsimp only
        rw [hmsl, Option.getD_some]
        refine rows_of (bTab_nodup _ _ _) fun e he => ⟨by simp, ?_⟩
        obtain ⟨s, _, _, rfl⟩ := bTab_mem he
        have : (n + s) % m.caps.length < m.caps.length := Nat.mod_lt _ (by omega)
        dsimp only; omega
theorem BI.all {ms : List Mach} {its : List Item} {P : List UInt8} (hm : 1 ≤ ms.length) (hn : (ms.map Mach.id).Nodup) (hc : ∀ m ∈ ms, 1 ≤ m.caps.length) (hl : its.length ≤ 2000) : ∀ i, i ≤ 6 → BI ms its P i
  | 0, _ => BI.zero ms its P
  | i + 1, h => BI.step (BI.all hm hn hc hl i (by omega)) (by omega) hm hn hc hl
/-- Plants that built makes, with machines of other rates. -/
def rated (ms : List Mach) (rs : List Int) : List Mach := ms.zipWith (fun m r => { m with rate := r }) rs
end Go.Sx.Plt
namespace Go.Sx.Srt
open Go.Sx.Seq (addAt addAt_len)
def shift (d : Int) (m : M) : M := { m with left := m.left + d }
/-- How many sweeps are needed. -/
def needed (caps : List Int) (l : List Fd) : Int := (playF caps l.length l).swept.sum
/-! ## events -/
end Go.Sx.Srt
namespace Go.Sx.Srt
open Go.Sx.Seq (addAt addAt_len)
/-- What belongs to a stacker, in the order of feeding. -/
def goes (l : List Fd) (k : Nat) : List Int := (l.filter fun f => f.st = (k : Int)).map Fd.item
def refused (l : List Fd) : List Int := (l.filter fun f => f.st < 0).map Fd.item
theorem goes_snoc (l : List Fd) (f : Fd) (k : Nat) : goes (l ++ [f]) k = goes l k ++ if f.st = (k : Int) then [f.item] else [] := by
  unfold goes
  rw [List.filter_append, List.map_append]
  by_cases h : f.st = (k : Int) <;> simp [h]
theorem refused_snoc (l : List Fd) (f : Fd) : refused (l ++ [f]) = refused l ++ if f.st < 0 then [f.item] else [] := by
  unfold refused
  rw [List.filter_append, List.map_append]
  by_cases h : f.st < 0 <;> simp [h]
theorem list_snoc {α : Type} {P : List α → Prop} (h0 : P []) (h1 : ∀ l x, P l → P (l ++ [x])) : ∀ l, P l := by
  intro l
  have : ∀ n, n ≤ l.length → P (l.take n) := by
    intro n
    induction n with
    | zero => intro _; simpa using h0
    | succ n ih =>
      intro hn
      have hx := List.getElem?_eq_getElem (show n < l.length by omega)
      rw [List.take_add_one, hx]
      exact h1 _ _ (ih (by omega))
  have := this l.length (Nat.le_refl _)
  rwa [List.take_length] at this
theorem playF_goes {caps : List Int} {s : Int} : ∀ l : List Fd, (∀ f ∈ l, f.st < caps.length) → ∀ k, ((playF caps s l).stackers.getD k []).Sublist (goes l k) := by
  refine list_snoc ?_ ?_
  · intro _ k
    simp only [playF_nil, M.new]
    have : (List.replicate caps.length ([] : List Int)).getD k [] = [] := by
      by_cases h : k < caps.length <;> simp [h]
    rw [this]; exact List.nil_sublist _
  · intro l f ih hl k
    have ih := ih (fun x hx => hl x (List.mem_append_left _ hx)) k
    have hf := hl f (by simp)
    have hz := (playF_sz caps s l).st
    rw [playF_snoc, goes_snoc]
    have hput : 0 ≤ f.st → ((putAt (playF caps s l).stackers f.st.toNat f.item).getD k []).Sublist (goes l k ++ if f.st = (k : Int) then [f.item] else []) := fun h0 => by
      rw [putAt_getD, hz]
      refine ih.append ?_
      by_cases e : f.st = (k : Int)
      · rw [if_pos (by omega), if_pos e]; exact List.Sublist.refl _
      · rw [if_neg (by omega), if_neg e]; exact List.Sublist.refl _
    have hsame : ((playF caps s l).stackers.getD k []).Sublist (goes l k ++ if f.st = (k : Int) then [f.item] else []) := ih.trans (List.sublist_append_left _ _)
    rcases take_cases caps (playF caps s l) f with ⟨_, e⟩ | ⟨h0, _, e⟩ | ⟨h0, _, _, e⟩ | ⟨_, _, _, e⟩ <;> rw [e]
    · exact hsame
    · exact hput h0
    · exact hput h0
    · exact hsame
theorem playF_refused {caps : List Int} {s : Int} : ∀ l : List Fd, (playF caps s l).rej = refused l := by
  refine list_snoc ?_ ?_
  · rfl
  · intro l f ih
    rw [playF_snoc, refused_snoc]
    rcases take_cases caps (playF caps s l) f with ⟨h, e⟩ | ⟨h, _, e⟩ | ⟨h, _, _, e⟩ | ⟨h, _, _, e⟩ <;> rw [e]
    · simp only [note, ih, if_pos h]
    · simp only [note, stack, ih, if_neg (show ¬ f.st < 0 by omega), List.append_nil]
    · simp only [note, stack, ih, if_neg (show ¬ f.st < 0 by omega), List.append_nil]
    · simp only [note, ih, if_neg (show ¬ f.st < 0 by omega), List.append_nil]
/-- Where there is room for all that belongs to a stacker, no sweep is made. -/
theorem playF_room {caps : List Int} {s : Int} : ∀ l : List Fd, (∀ f ∈ l, f.st < caps.length) → (∀ k, k < caps.length → ((goes l k).length : Int) ≤ caps.getD k 0) →
    (playF caps s l).over = [] ∧ (playF caps s l).swept = List.replicate caps.length 0 ∧ (playF caps s l).left = s ∧ ∀ k, k < caps.length → (playF caps s l).stackers.getD k [] = goes l k ∧ (playF caps s l).held.getD k 0 = (goes l k).length := by
  refine list_snoc ?_ ?_
  · intro _ _
    refine ⟨rfl, rfl, rfl, fun k hk => ?_⟩
    simp [playF_nil, M.new, hk, goes]
  · intro l f ih hl hc
    have hf := hl f (by simp)
    obtain ⟨i1, i2, i3, i4⟩ := ih (fun x hx => hl x (List.mem_append_left _ hx)) (fun k hk => by
      have := hc k hk
      rw [goes_snoc, List.length_append] at this
      omega)
    have hz := playF_sz caps s l
    have hz1 := hz.st
    have hz3 := hz.hd
    rw [playF_snoc]
    rcases take_cases caps (playF caps s l) f with ⟨h, e⟩ | ⟨h, hh, e⟩ | ⟨h, hh, _, e⟩ | ⟨h, hh, _, e⟩
    · rw [e]
      refine ⟨i1, i2, i3, fun k hk => ?_⟩
      rw [goes_snoc, if_neg (by omega), List.append_nil]
      exact i4 k hk
    · rw [e]
      refine ⟨i1, i2, i3, fun k hk => ?_⟩
      obtain ⟨j1, j2⟩ := i4 k hk
      simp only [stack, note, putAt_getD, addAt_getD, hz1, hz3, goes_snoc, j1, j2]
      by_cases e : f.st = (k : Int)
      · rw [if_pos (by omega), if_pos e, if_pos (by omega)]
        simp
      · rw [if_neg (by omega), if_neg e, if_neg (by omega)]
        simp
    all_goals
      exfalso
      have hk : f.st.toNat < caps.length := by omega
      have h1 := hc _ hk
      have h2 := (i4 _ hk).2
      rw [goes_snoc, if_pos (by omega), List.length_append] at h1
      simp only [List.length_cons, List.length_nil] at h1
      omega
theorem getD_list {α : Type} {l : List (List α)} {n : Nat} (h : l.length = n) : l = (List.range n).map fun k => l.getD k [] := by
  subst h
  apply List.ext_getElem?
  intro i
  by_cases hi : i < l.length
  · simp [hi]
  · rw [List.getElem?_eq_none (by omega), List.getElem?_eq_none (by simp; omega)]
/-- Lists, one behind the other. -/
theorem flatten_pairwise {α : Type} (key : α → Nat) (S : α → α → Prop) (g : Nat → List α) : ∀ n, (∀ k, k < n → (∀ x ∈ g k, key x = k) ∧ (g k).Pairwise S) → (((List.range n).map g).flatten).Pairwise fun a b => key a < key b ∨ (key a = key b ∧ S a b)
  | 0, _ => by simp
  | n + 1, h => by
    rw [List.range_succ, List.map_append, List.flatten_append, List.map_singleton, List.flatten_singleton, List.pairwise_append]
    refine ⟨flatten_pairwise key S g n (fun k hk => h k (by omega)), ?_, ?_⟩
    · obtain ⟨h1, h2⟩ := h n (by omega)
      refine h2.imp_of_mem ?_
      intro a b ha hb hs
      exact .inr ⟨by rw [h1 a ha, h1 b hb], hs⟩
    · intro a ha b hb
      left
      obtain ⟨l, hl, hal⟩ := List.mem_flatten.1 ha
      obtain ⟨k, hk, rfl⟩ := List.mem_map.1 hl
      have hk := List.mem_range.1 hk
      rw [(h k (by omega)).1 a hal, (h n (by omega)).1 b hb]
      exact hk
end Go.Sx.Srt
namespace Go.Sx.Plt
open Go.Proofs.Ytkhaemjoekfhiaa (mslF_keys psF tkF psF_snoc tkF_snoc)
/-! ## slices and minutes -/
theorem span_min {rel : Int} : ∀ {l : List Sh} {left : Int}, 0 ≤ left → spanF (slicesF rel left l) = min left (haveF rel l)
  | [], left, h => by simp [slicesF, spanF, haveF]; omega
  | s :: r, left, h => by
    have hh : 0 ≤ haveF rel r := by
      have : ∀ l : List Sh, 0 ≤ haveF rel l := by
        intro l
        induction l with
        | nil => simp [haveF]
        | cons a l ih => rw [haveF]; omega
      exact this r
    rw [slicesF, haveF]
    by_cases hc : left = 0 ∨ s.t ≤ max s.f rel
    · rw [if_pos hc, span_min h]
      rcases hc with h0 | h0 <;> omega
    · rw [if_neg hc, spanF, span_min (by omega)]
      dsimp only
      omega
/-- Slices, one behind the other. -/
def Chain : Int → List (Int × Int) → Prop
  | _, [] => True
  | e, s :: r => (e ≤ s.1 ∧ s.1 < s.2) ∧ Chain s.2 r
theorem Chain.mono : ∀ {l : List (Int × Int)} {e e' : Int}, e' ≤ e → Chain e l → Chain e' l
  | [], _, _, _, _ => trivial
  | s :: r, e, e', h, hc => ⟨by have := hc.1; omega, hc.2⟩
theorem slices_chain {rel : Int} : ∀ {l : List Sh} {left b : Int} {i : Nat}, 0 ≤ left → wrongS b i l = none → Chain (max b rel) (slicesF rel left l)
  | [], _, _, _, _, _ => trivial
  | s :: r, left, b, i, h, hw => by
    rw [wrongS] at hw
    split at hw
    · rename_i hs
      unfold Sh.ok at hs
      rw [slicesF]
      by_cases hc : left = 0 ∨ s.t ≤ max s.f rel
      · rw [if_pos hc]
        exact Chain.mono (by omega) (slices_chain h hw)
      · rw [if_neg hc]
        refine ⟨by dsimp only; omega, ?_⟩
        dsimp only
        by_cases hl : left - (min s.t (max s.f rel + left) - max s.f rel) = 0
        · rw [hl]
          have : ∀ l : List Sh, slicesF rel 0 l = [] := by
            intro l
            induction l with
            | nil => rfl
            | cons a l ih => rw [slicesF, if_pos (.inl rfl), ih]
          rw [this]; trivial
        · have hm : min s.t (max s.f rel + left) = s.t := by omega
          rw [hm]
          exact Chain.mono (by omega) (slices_chain (by omega) hw)
    · cases hw
theorem slices_inside {rel : Int} : ∀ {l : List Sh} {left : Int}, 0 ≤ left → ∀ s ∈ slicesF rel left l, ∃ h ∈ l, h.f ≤ s.1 ∧ s.2 ≤ h.t
  | [], _, _, s, hs => by simp [slicesF] at hs
  | a :: r, left, h, s, hs => by
    rw [slicesF] at hs
    split at hs
    · obtain ⟨x, hx, h1⟩ := slices_inside h s hs
      exact ⟨x, List.mem_cons_of_mem _ hx, h1⟩
    · rcases List.mem_cons.1 hs with rfl | hs
      · exact ⟨a, List.mem_cons_self, by dsimp only; omega, by dsimp only; omega⟩
      · obtain ⟨x, hx, h1⟩ := slices_inside (by omega) s hs
        exact ⟨x, List.mem_cons_of_mem _ hx, h1⟩
theorem need_lt {k n : Int} {r : Int} (hr : 1 ≤ r) : k < (n + r - 1) / r ↔ k * r < n := by
  have h1 : k + 1 ≤ (n + r - 1) / r ↔ (k + 1) * r ≤ n + r - 1 := Int.le_ediv_iff_mul_le (by omega)
  have h2 : (k + 1) * r = k * r + r := by rw [Int.add_mul, Int.one_mul]
  rw [h2] at h1
  omega
/-! ## feeds -/
theorem tableF_mem {k v : Int} : ∀ l : List Row, asF k (tableF l) = some v → ∃ e ∈ l, e.stop = k ∧ e.st = v := by
  refine fun l => snoc_ind (p := fun l => asF k (tableF l) = some v → ∃ e ∈ l, e.stop = k ∧ e.st = v) (fun h => by simp [tableF, asF] at h) (fun l e ih h => ?_) l
  rw [tableF_snoc, asF_put] at h
  by_cases hk : e.stop = k
  · rw [if_pos hk] at h
    exact ⟨e, by simp, hk, by simpa using h⟩
  · rw [if_neg hk] at h
    obtain ⟨x, hx, h1⟩ := ih h
    exact ⟨x, List.mem_append.2 (.inl hx), h1⟩
theorem rows_spec {n : Int} : ∀ {l : List Row} {met : List Int}, rowsOk n met l → ∀ e ∈ l, 0 ≤ e.st ∧ e.st < n
  | [], _, _, e, h => by simp at h
  | a :: r, met, h, e, he => by
    rcases List.mem_cons.1 he with rfl | he
    · exact h.1.2
    · exact rows_spec h.2 e he
theorem feed_item (stops : List (Int × Int)) (y : Pass) (x : Int) : (feedOf stops y x).item = x := by unfold feedOf; split <;> rfl
theorem feed_bd {stops : List (Int × Int)} {y : Pass} {n : Int} (hr : rowsOk n [] y.table) (hn : 0 ≤ n) (x : Int) : -1 ≤ (feedOf stops y x).st ∧ (feedOf stops y x).st < n := by
  unfold feedOf
  cases ho : asF ((asF x stops).getD 0) (tableF y.table) with
  | none => dsimp only; omega
  | some k =>
    obtain ⟨e, he, _, rfl⟩ := tableF_mem _ ho
    have := rows_spec hr e he
    dsimp only
    split <;> omega
theorem Valid.feeds {p : Plant} (hv : Valid p) {i : Nat} {h : Hall} (hi : Inv p i h) {y : Pass} (hy : p.passes[i]? = some y) {m : Mach} (hm : asF y.mach (mslF p.ms) = some (m.caps.length : Int)) {items : List Int} (hit : items = y.src.flatMap h.row) : Srt.FdsOk m.caps.length (items.map (feedOf (stopsF p.items) y)) ∧ (∀ x ∈ items, x ∈ p.items.map Item.id) ∧ items.Nodup := by
  have hs := hv.src hy
  have hcount := fun x => hi.count hs.1 (fun s hs' => (hs.2 s hs').1) x
  rw [← hit] at hcount
  have hmem : ∀ x ∈ items, x ∈ p.items.map Item.id := fun x hx => by
    have h1 := List.count_pos_iff.2 hx
    have := hcount x
    exact List.count_pos_iff.1 (by omega)
  have hnd : items.Nodup := List.nodup_iff_count.2 fun x => by
    have := hcount x
    have := List.nodup_iff_count.1 hv.ind x
    omega
  refine ⟨⟨fun f hf => ?_, ?_, ?_⟩, hmem, hnd⟩
  · obtain ⟨x, hx, rfl⟩ := List.mem_map.1 hf
    obtain ⟨z, hz, e⟩ := List.mem_map.1 (hmem x hx)
    have hok := (hv.iok z hz).1
    unfold idOk at hok
    have hrow := (hv.pok i y hy).2.2.2
    rw [hm, Option.getD_some] at hrow
    have := feed_bd (stops := stopsF p.items) hrow (by omega) x
    unfold Srt.Fd.ok
    rw [feed_item]
    omega
  · rw [feed_items]; exact hnd
  · rw [List.length_map]
    have := hi.len hv hs.1 (fun s hs' => (hs.2 s hs').1)
    rw [← hit] at this
    exact this
/-! ## one run -/
/-- A run that was run. -/
structure Ran (p : Plant) (h : Hall) (m : Mach) (y : Pass) (r : Run) (ready : Int) : Prop where
  take : takeSrc h (max y.rel ((asF m.id h.free).getD 0)) [] y.src = some (ready, r.items)
  pass : r.pass = y.id
  res : Srt.runF m.caps m.sweeps (r.items.map (feedOf (stopsF p.items) y)) = (r.res, 0)
  hall : (runF h m (stopsF p.items) y).2 = ⟨putRows y.id 0 r.res.stackers h.rows, putF y.id r.fin h.ends, putF m.id r.fin h.free⟩
  slices : r.slices = if r.items = [] then [] else slicesF ready (needOf r.items.length m.rate) m.shifts
  enough : needOf r.items.length m.rate ≤ haveF ready m.shifts
  start : r.start = if r.items = [] then ready else (r.slices.headD (0, 0)).1
  fin : r.fin = if r.items = [] then ready else (r.slices.getLastD (0, 0)).2
/-- A run that was not. -/
structure Miss (p : Plant) (h : Hall) (m : Mach) (y : Pass) (r : Run) : Prop where
  eq : r = missed y
  hall : (runF h m (stopsF p.items) y).2 = h
  why : ∀ ready items, takeSrc h (max y.rel ((asF m.id h.free).getD 0)) [] y.src = some (ready, items) → haveF ready m.shifts * m.rate < items.length
theorem need_nonneg {n : Nat} {r : Int} (hr : 1 ≤ r) : 0 ≤ needOf n r := Int.ediv_nonneg (by omega) (by omega)
theorem haveF_nonneg (t : Int) : ∀ l : List Sh, 0 ≤ haveF t l
  | [] => by simp [haveF]
  | a :: r => by have := haveF_nonneg t r; rw [haveF]; omega
theorem run_cases {p : Plant} (hv : Valid p) {i : Nat} {h : Hall} (hi : Inv p i h) {y : Pass} (hy : p.passes[i]? = some y) {m : Mach} (hm : asF y.mach (mslF p.ms) = some (m.caps.length : Int)) (hr : rightM m) :
    Miss p h m y (runF h m (stopsF p.items) y).1 ∨ ∃ ready, Ran p h m y (runF h m (stopsF p.items) y).1 ready := by
  have hrate := hr.2.1.1
  cases ht : takeSrc h (max y.rel ((asF m.id h.free).getD 0)) [] y.src with
  | none =>
    have e : runF h m (stopsF p.items) y = (missed y, h) := by unfold runF; rw [ht]
    exact .inl ⟨by rw [e], by rw [e], fun ready items hh => by rw [ht] at hh; cases hh⟩
  | some q =>
    obtain ⟨ready, items⟩ := q
    have hit := (takeSrc_spec ht).1
    rw [List.nil_append] at hit
    obtain ⟨hfd, _, _⟩ := hv.feeds hi hy hm hit
    have hcaps : Srt.capsOk m.caps ∧ 0 ≤ m.sweeps ∧ m.sweeps ≤ 1000 := by
      have h1 := hr.2.2.1
      unfold Srt.runF at h1
      split at h1
      · cases h1
      · rename_i hc
        split at h1
        · cases h1
        · rename_i hs
          exact ⟨Classical.not_not.1 hc, by omega, by omega⟩
    have hres := Srt.runF_ok hcaps.1 hcaps.2 hfd
    by_cases hne : items = []
    · subst hne
      have e := Go.Proofs.Ytkhaemjoekfhiaa.runF_idle (stops := stopsF p.items) ht
      rw [show Srt.runF m.caps m.sweeps [] = _ from hres] at e
      unfold Go.Proofs.Ytkhaemjoekfhiaa.tailF at e
      rw [if_neg (by simp)] at e
      refine .inr ⟨ready, ?_⟩
      rw [e]
      refine ⟨ht, rfl, hres, by rw [e], rfl, ?_, rfl, rfl⟩
      have : needOf ([] : List Int).length m.rate = 0 := by
        unfold needOf
        exact Int.ediv_eq_zero_of_lt (by simp; omega) (by simp; omega)
      dsimp only
      rw [this]
      exact haveF_nonneg _ _
    · have hsp := span_min (rel := ready) (l := m.shifts) (need_nonneg (n := items.length) hrate)
      by_cases hl : slicesF ready (needOf items.length m.rate) m.shifts = [] ∨ spanF (slicesF ready (needOf items.length m.rate) m.shifts) < needOf items.length m.rate
      · have e := Go.Proofs.Ytkhaemjoekfhiaa.runF_late (stops := stopsF p.items) ht hne hl
        refine .inl ⟨by rw [e], by rw [e], fun r2 i2 hh => ?_⟩
        rw [ht] at hh
        cases hh
        have hn1 : 1 ≤ needOf items.length m.rate := by
          have := List.length_pos_iff.2 hne
          unfold needOf
          exact Int.le_ediv_of_mul_le (by omega) (by omega)
        have h2 : haveF ready m.shifts < needOf items.length m.rate := by
          rcases hl with h0 | h0
          · rw [h0, spanF] at hsp; omega
          · omega
        exact (need_lt hrate).1 h2
      · have e := Go.Proofs.Ytkhaemjoekfhiaa.runF_busy (stops := stopsF p.items) ht hne hl
        rw [hres] at e
        unfold Go.Proofs.Ytkhaemjoekfhiaa.tailF at e
        rw [if_neg (by simp)] at e
        refine .inr ⟨ready, ?_⟩
        rw [e]
        refine ⟨ht, rfl, hres, by rw [e], by dsimp only; rw [if_neg hne], by dsimp only; omega, by dsimp only; rw [if_neg hne], by dsimp only; rw [if_neg hne]⟩
end Go.Sx.Plt
namespace Go.Sx.Plt
open Go.Proofs.Ytkhaemjoekfhiaa (mslF_keys psF tkF psF_snoc tkF_snoc)
/-- The run of a pass of a valid plant. -/
theorem Valid.run {p : Plant} (hv : Valid p) {i : Nat} {y : Pass} (hy : p.passes[i]? = some y) {r : Run} (hr : (playF p)[i]? = some r) : ∃ (k : Nat) (m : Mach), p.ms[k]? = some m ∧ m.id = y.mach ∧ rightM m ∧ r = (runF (hallAt p i) m (stopsF p.items) y).1 ∧ hallAt p (i + 1) = (runF (hallAt p i) m (stopsF p.items) y).2 ∧
    asF y.mach (mslF p.ms) = some (m.caps.length : Int) ∧ (Miss p (hallAt p i) m y r ∨ ∃ ready, Ran p (hallAt p i) m y r ready) := by
  obtain ⟨k, m, h1, h2, h3, h4, h5⟩ := hv.mach hy
  have hg := playF_get hy
  rw [hr, h3] at hg
  have e : r = (runF (hallAt p i) m (stopsF p.items) y).1 := Option.some.inj hg
  refine ⟨k, m, h1, h2, h4, e, by rw [hallAt_succ hy, h3], h5, ?_⟩
  rw [e]
  exact run_cases hv (Inv.all hv i) hy h5 h4
theorem pass_lt {p : Plant} {i : Nat} {y : Pass} (h : p.passes[i]? = some y) : i < p.passes.length := (List.getElem?_eq_some_iff.1 h).1
theorem Valid.get {p : Plant} {i : Nat} {y : Pass} (h : p.passes[i]? = some y) : ∃ r, (playF p)[i]? = some r := ⟨_, List.getElem?_eq_getElem (by rw [playF_len]; exact pass_lt h)⟩
theorem hall_stay {p : Plant} {i : Nat} (h : p.passes[i]? = none) : hallAt p (i + 1) = hallAt p i := by
  unfold hallAt
  rw [List.take_add_one, h]; simp
/-! ## rows -/
theorem batch_row (b : Int) : ∀ l : List Item, (asF ((0 : Int), b) (batchRows [] l)).getD [] = ofBatch l (0, b) := by
  refine fun l => snoc_ind (p := fun l => (asF ((0 : Int), b) (batchRows [] l)).getD [] = ofBatch l (0, b)) (by simp [batchRows, asF, ofBatch]) (fun l x ih => ?_) l
  rw [batch_snoc, asF_put]
  unfold ofBatch at ih ⊢
  rw [if_pos rfl] at ih ⊢
  rw [List.filter_append, List.map_append]
  by_cases h : x.batch = b
  · rw [if_pos (by rw [h]), Option.getD_some, h, ih]; simp [h]
  · rw [if_neg (fun e => h (Prod.mk.inj e).2), ih]; simp [h]
theorem batch_row0 {s : Int × Int} (h : s.1 ≠ 0) (l : List Item) : asF s (batchRows [] l) = none := by
  refine snoc_ind (p := fun l => asF s (batchRows [] l) = none) (by simp [batchRows, asF]) (fun l x ih => ?_) l
  rw [batch_snoc, asF_put, if_neg (fun e => h (by rw [← e]))]
  exact ih
theorem ofRun_missed (y : Pass) {s : Int × Int} (h : 0 ≤ s.2) : ofRun s (missed y) = [] := by
  unfold ofRun
  rw [if_neg]
  rintro ⟨_, h2⟩
  simp [missed, Srt.M.new] at h2
  omega
theorem Valid.rows {p : Plant} (hv : Valid p) {s : Int × Int} (hs : 0 ≤ s.2) : ∀ i, (hallAt p i).row s = ofBatch p.items s ++ ((playF p).take i).flatMap (ofRun s)
  | 0 => by
    rw [hallAt_zero, List.take_zero, List.flatMap_nil, List.append_nil]
    unfold Hall.row hall0
    dsimp only
    by_cases h0 : s.1 = 0
    · obtain ⟨a, b⟩ := s
      dsimp only at h0
      subst h0
      exact batch_row b p.items
    · rw [batch_row0 h0]
      unfold ofBatch
      rw [if_neg h0]; rfl
  | i + 1 => by
    have ih := Valid.rows hv hs i
    cases hy : p.passes[i]? with
    | none =>
      have hl : p.passes.length ≤ i := by
        rcases Nat.lt_or_ge i p.passes.length with h | h
        · rw [List.getElem?_eq_getElem h] at hy; cases hy
        · exact h
      rw [hall_stay hy, ih, List.take_of_length_le (by rw [playF_len]; omega), List.take_of_length_le (by rw [playF_len]; omega)]
    | some y =>
      obtain ⟨r, hr⟩ := Valid.get hy
      obtain ⟨k, m, _, _, _, hre, hh, _, hc⟩ := hv.run hy hr
      rw [flatMap_snoc' _ hr, ← List.append_assoc, ← ih]
      rcases hc with hc | ⟨ready, hc⟩
      · rw [hh, hc.hall, hc.eq, ofRun_missed y hs, List.append_nil]
      · rw [hh, hc.hall]
        unfold Hall.row
        dsimp only
        obtain ⟨a, b⟩ := s
        dsimp only at hs
        rw [putRows_as]
        have hidn : y.id ≠ 0 := by
          have := (hv.pok i y hy).1.2.1
          unfold idOk at this
          omega
        unfold ofRun
        rw [hc.pass]
        dsimp only
        by_cases hid : a = y.id
        · subst hid
          have h0 : asF (y.id, b) (hallAt p i).rows = none := (Inv.all hv i).row_early hidn (hv.new hy)
          rw [h0]
          by_cases hb : b < (r.res.stackers.length : Int)
          · rw [if_pos ⟨rfl, by omega, by omega⟩, if_pos ⟨rfl, hb⟩]
            simp [List.getD_eq_getElem?_getD]
          · rw [if_neg (by rintro ⟨_, _, h⟩; omega), if_neg (fun h => hb h.2)]; rfl
        · rw [if_neg (fun h => hid h.1), if_neg (fun h => hid h.1.symm), List.append_nil]
theorem src_nonneg {ps : List (Int × Int)} {s : Int × Int} (h : srcOk ps s) : 0 ≤ s.2 := by
  unfold srcOk at h
  split at h
  · omega
  · split at h
    · exact h.elim
    · exact h.1
theorem Valid.src_nn {p : Plant} (hv : Valid p) {i : Nat} {y : Pass} (hy : p.passes[i]? = some y) : ∀ s ∈ y.src, 0 ≤ s.2 := fun s hs => src_nonneg ((srcs_spec (hv.pok i y hy).2.1).2 s hs).2
theorem Valid.taken' {p : Plant} (hv : Valid p) {i : Nat} {y : Pass} (hy : p.passes[i]? = some y) : y.src.flatMap (hallAt p i).row = takenF p.items ((playF p).take i) y.src := by
  unfold takenF
  have : ∀ l : List (Int × Int), (∀ s ∈ l, 0 ≤ s.2) → l.flatMap (hallAt p i).row = l.flatMap fun s => ofBatch p.items s ++ ((playF p).take i).flatMap (ofRun s) := by
    intro l
    induction l with
    | nil => intro _; rfl
    | cons a l ih =>
      intro h
      rw [List.flatMap_cons, List.flatMap_cons, ih fun s hs => h s (List.mem_cons_of_mem _ hs), hv.rows (h a List.mem_cons_self) i]
  exact this _ (hv.src_nn hy)
theorem Valid.taken_len {p : Plant} (hv : Valid p) {i : Nat} {y : Pass} (hy : p.passes[i]? = some y) : (takenF p.items ((playF p).take i) y.src).length ≤ 2000 := by
  rw [← hv.taken' hy]
  have hs := hv.src hy
  exact (Inv.all hv i).len hv hs.1 fun s hs' => (hs.2 s hs').1
theorem Ran.items {p : Plant} {i : Nat} {m : Mach} {y : Pass} {r : Run} {ready : Int} (hc : Ran p (hallAt p i) m y r ready) (hv : Valid p) (hy : p.passes[i]? = some y) : r.items = takenF p.items ((playF p).take i) y.src := by
  have := (takeSrc_spec hc.take).1
  rw [List.nil_append] at this
  rw [this, hv.taken' hy]
/-! ## where items are put -/
structure Placed (r : Run) (x st : Int) : Prop where
  all : allN r x r.res.stackers.length = 1
  rej : st < 0 → holdsF r x 4 r.pass 0
  put : 0 ≤ st → holdsF r x 2 r.pass st ∨ holdsF r x 3 r.pass 0
  place : ∀ kd ps nu, placeF r x = (kd, ps, nu) → (kd = 2 ∨ kd = 3 ∨ kd = 4) ∧ holdsF r x kd ps nu
end Go.Sx.Plt
namespace Go.Proofs.Ytkhaemjoekfhiaa
open Go Go.Sx Go.RowKit
attribute [local irreducible] WL WC WQ WR WB WF QB St Exit.then Exit.inBlock Exit.noGoto bodyPost roundPost beginK YR RG BM Calls B AgainD MeetD
/-! ## awake -/
theorem len20 : (Plt.playF (Plt.exPl 20)).length = 2 := by rw [Plt.playF_len]; rfl
theorem len14 : (Plt.playF (Plt.exPl 14)).length = 2 := by rw [Plt.playF_len]; rfl
set_option maxHeartbeats 16000000 in
set_option maxRecDepth 100000 in
theorem awake_calls (w : World) : Calls Try.prog 16 #[] w fun e w' => e = .returned (.bool true) ∧ Below w.heap.size w w' := by
  have hl20 := len20
  have hl14 := len14
  obtain ⟨r0, hr0, e01, e02, e03, e04, e05⟩ := Plt.ex20_r0
  obtain ⟨r1, hr1, e11, e12, e13, e14⟩ := Plt.ex20_r1
  obtain ⟨s0, hs0, f01⟩ := Plt.ex14_r0
  obtain ⟨s1, hs1, f11, f12, f13⟩ := Plt.ex14_r1
  refine f_enter0 Try.func16 rfl Try.ntmps16 rfl (Rep.start w) ?_
  repeat' (first | ((first | ((with_reducible apply o_call_new (f := 35)); exact rfl) | ((with_reducible apply q_call_new (f := 35)); exact rfl; exact rfl; exact sJ_)); exact eV_; exact (fun w _ => example_calls w); rintro v NE ⟨b1, b2, b3, b4, b5, b6, b7, b8, b9, rfl, rfl⟩ <;> (try simp only [List.cons_append, List.nil_append])) | ((first | ((with_reducible apply o_call_new (f := 11)); exact rfl) | ((with_reducible apply q_call_new (f := 11)); exact rfl; exact rfl; exact sJ_)); exact eV_; exact (fun w hw => play_calls31 (Plt.calm_of Plt.ex20_valid) w (ex_plV _ _ _ _ (by exact rL_) hw)); rintro v NR ⟨ar, cr, rds, rfl, ⟨hsh, hrl⟩, oR⟩ <;> (try simp only [List.cons_append, List.nil_append])) | ((with_reducible first | apply o_move | apply o_assign | apply o_faddr0 | apply o_not_d); exact rfl; exact rfl) | ((with_reducible apply gdo_load); first | refine wo_load (h := ?_) | refine wo_loadAll (h := ?_) | refine wo_loadC (h := ?_) | refine wo_ldV (h := ?_) | refine wo_ldF (h := ?_)) | ((with_reducible first | apply o_eql | apply o_neq | apply o_extract); exact rfl; exact rfl; exact rfl) | ((with_reducible apply o_pick_f); exact rfl; exact fF_; exact rfl; exact rfl) | ((with_reducible apply o_alloc); exact rfl; intro _) | ((with_reducible apply gdo_store); first | refine wo_store1 (h := ?_) | refine wo_storeA (h := ?_)) | ((with_reducible apply o_len); infer_instance; exact rfl; exact rfl) | ((with_reducible first | apply g_run); exact rfl; exact gG_) | ((with_reducible first | apply c_seq | apply c_block | apply c_region | apply c_nil | apply c_ret | apply c_exit | apply c_skip)) | ((with_reducible first | apply e_then | apply e_then_ret | apply e_then_exit | apply e_in | apply e_in_ret | apply e_in_same)) | ((with_reducible first | apply o_appd | apply o_appn)))
  refine st_know (fun w' hw' => RunsV.at (hsh _ _ _ _ (by exact rL_) hw') hr0) ?_
  rintro ⟨br, offr, x1, k1, x2, k2, x3, n3, k3, x4, n4, k4, x5, k5, x6, k6, x7, n7, k7, rfl, hd0, hn3, g0⟩
  refine st_know (fun w' hw' => RunsV.at (hsh _ _ _ _ (by exact rL_) hw') hr1) ?_
  rintro ⟨br', offr', y1, l1, y2, l2, y3, m3, l3, y4, m4, l4, y5, l5, y6, l6, y7, m7, l7, ebr, hd1, hm3, g1⟩
  cases ebr
  have hsl : (Plt.slc3 r0.pass r0.slices)[1]? = some (3, 10, 12) := by rw [e03, e04]; rfl
  refine st_know (fun w' hw' => SV.ptr ((hsh _ _ _ _ (by exact rL_) hw').2.2 0 _ _ hd0 hr0).slices hsl) ?_
  rintro ⟨bs, offs, rfl⟩
  have hsn0 : r0.slices.length = 2 := by rw [e04]; rfl
  repeat' (first | ((with_reducible apply o_pick_f); exact rfl; exact decide_eq_false (by omega); exact rfl; exact rfl) | ((with_reducible apply g_run); exact rfl; exact decide_eq_false (by omega)) | ((with_reducible apply o_idx (m := 0)); infer_instance; infer_instance; exact rfl; exact rfl; exact rfl; exact rfl; omega) | ((with_reducible apply o_idx (m := 1)); infer_instance; infer_instance; exact rfl; exact rfl; exact rfl; exact rfl; omega) | ((with_reducible apply o_ldP); infer_instance; exact rfl; (intro w' hw'; first | exact SV.cell (hsh _ _ _ _ (by exact rL_) hw').1 hd0 (g0 _ _ rfl) | exact SV.cell (hsh _ _ _ _ (by exact rL_) hw').1 hd1 (g1 _ _ rfl)); exact rfl) | ((with_reducible apply o_ldPV (l := [.int .i64 3, .int .i64 10, .int .i64 12])); infer_instance; infer_instance; exact rfl; (intro w' hw' j' v' hj'; exact SV.cell ((hsh _ _ _ _ (by exact rL_) hw').2.2 0 _ _ hd0 hr0).slices hsl hj'); exact rfl; exact rfl) | ((first | ((with_reducible apply o_call_pure (f := 20)); exact rfl) | ((with_reducible apply q_call_pure (f := 20)); exact rfl; kernel_rfl; exact rfl; exact sJ_)); exact eV_; exact (fun w hw => same_yes e13 w ((hsh _ _ _ _ (by exact rL_) hw).2.2 1 _ _ hd1 hr1).items (SV.lit [1, 3, 4, 2, 5] encI_len hw (by exact aT_) rfl rfl (by decide)))) | ((first | ((with_reducible apply o_call_pure (f := 24)); exact rfl) | ((with_reducible apply q_call_pure (f := 24)); exact rfl; kernel_rfl; exact rfl; exact sJ_)); exact eV_; exact (fun w hw => lists_is e05 w (((hsh _ _ _ _ (by exact rL_) hw).2.2 0 _ _ hd0 hr0).stk' rfl) (SV.lit ([(_, 3, 3), (_, 2, 2)] : List SD) encS_len hw (by exact aT_) rfl rfl (by decide)) (LL.two' (x := [1, 3, 4]) (y := [2, 5]) encI_len hw (by exact aT_) (by exact aT_) (by decide) (by decide)))) | ((first | ((with_reducible apply o_call_pure (f := 24)); exact rfl) | ((with_reducible apply q_call_pure (f := 24)); exact rfl; kernel_rfl; exact rfl; exact sJ_)); exact eV_; exact (fun w hw => lists_is e14 w (((hsh _ _ _ _ (by exact rL_) hw).2.2 1 _ _ hd1 hr1).stk' rfl) (SV.lit ([(_, 3, 3), (_, 2, 2)] : List SD) encS_len hw (by exact aT_) rfl rfl (by decide)) (LL.two' (x := [3, 2, 5]) (y := [1, 4]) encI_len hw (by exact aT_) (by exact aT_) (by decide) (by decide)))) | ((first | ((with_reducible apply o_call_pure (f := 36)); exact rfl) | ((with_reducible apply q_call_pure (f := 36)); exact rfl; kernel_rfl; exact rfl; exact sJ_)); exact eV_; exact (fun w hw => atp_calls Plt.ex20_valid Plt.ex20_w1 w (ex_plV _ _ _ _ (by exact rL_) hw))) | ((first | ((with_reducible apply o_call_pure (f := 36)); exact rfl) | ((with_reducible apply q_call_pure (f := 36)); exact rfl; kernel_rfl; exact rfl; exact sJ_)); exact eV_; exact (fun w hw => atp_calls Plt.ex20_valid Plt.ex20_w2 w (ex_plV _ _ _ _ (by exact rL_) hw))) | ((first | ((with_reducible apply o_call_pure (f := 36)); exact rfl) | ((with_reducible apply q_call_pure (f := 36)); exact rfl; kernel_rfl; exact rfl; exact sJ_)); exact eV_; exact (fun w hw => atp_calls Plt.ex20_valid Plt.ex20_w3 w (ex_plV _ _ _ _ (by exact rL_) hw))) | ((first | ((with_reducible apply o_call_pure (f := 36)); exact rfl) | ((with_reducible apply q_call_pure (f := 36)); exact rfl; kernel_rfl; exact rfl; exact sJ_)); exact eV_; exact (fun w hw => atp_calls Plt.ex20_valid Plt.ex20_w4 w (ex_plV _ _ _ _ (by exact rL_) hw))) | ((with_reducible first | apply o_move | apply o_assign | apply o_faddr0 | apply o_not_d); exact rfl; exact rfl) | ((with_reducible first | apply o_faddr); exact rfl; exact rfl) | ((with_reducible apply gdo_load); first | refine wo_load (h := ?_) | refine wo_loadAll (h := ?_) | refine wo_loadC (h := ?_) | refine wo_ldV (h := ?_) | refine wo_ldF (h := ?_)) | ((with_reducible first | apply o_eql | apply o_neq | apply o_extract); exact rfl; exact rfl; exact rfl) | ((with_reducible apply gdo_binOp_neq); refine wo_neq_s (h := ?_)) | ((with_reducible apply o_not); exact rfl; exact rfl) | ((with_reducible apply o_pick_f); exact rfl; exact fF_; exact rfl; exact rfl) | ((with_reducible apply o_alloc); exact rfl; intro _) | ((with_reducible apply gdo_store); first | refine wo_store1 (h := ?_) | refine wo_storeA (h := ?_)) | ((with_reducible apply gdo_build); first | refine wo_build (h := ?_)) | ((with_reducible apply o_len); infer_instance; exact rfl; exact rfl) | ((with_reducible apply gdo_buildSlice); refine wo_buildSlice (h := fun _ => ?_)) | ((with_reducible first | apply g_run); exact rfl; exact gG_) | ((with_reducible first | apply c_seq | apply c_block | apply c_region | apply c_nil | apply c_ret | apply c_exit | apply c_skip)) | ((with_reducible apply c_cond_f); exact rfl; exact fF_) | ((with_reducible first | apply e_then | apply e_then_ret | apply e_then_exit | apply e_in | apply e_in_ret | apply e_in_same)) | ((with_reducible first | apply o_appd | apply o_appn)))
  simp only [exN, exQ, sdV, List.cons_append, List.nil_append]
  repeat' (first | ((with_reducible apply o_idx (m := 0)); infer_instance; infer_instance; exact rfl; exact rfl; exact rfl; exact rfl; omega) | ((with_reducible apply o_idx (m := 1)); infer_instance; infer_instance; exact rfl; exact rfl; exact rfl; exact rfl; omega) | ((first | ((with_reducible apply o_call_new (f := 11)); exact rfl) | ((with_reducible apply q_call_new (f := 11)); exact rfl; exact rfl; exact sJ_)); exact eV_; exact (fun w hw => play_calls31 (Plt.calm_of Plt.ex14_valid) w (ex_plV (t := 14) _ _ _ _ (by unfold exN; exact rL_) hw)); rintro v NS_ ⟨as_, cs_, sds, rfl, ⟨hshs, hsl2⟩, oS⟩ <;> (try simp only [List.cons_append, List.nil_append])) | ((with_reducible first | apply o_move | apply o_assign | apply o_faddr0 | apply o_not_d); exact rfl; exact rfl) | ((with_reducible first | apply o_faddr); exact rfl; exact rfl) | ((with_reducible apply gdo_load); first | refine wo_load (h := ?_) | refine wo_loadAll (h := ?_) | refine wo_loadC (h := ?_) | refine wo_ldV (h := ?_) | refine wo_ldF (h := ?_)) | ((with_reducible first | apply o_eql | apply o_neq | apply o_extract); exact rfl; exact rfl; exact rfl) | ((with_reducible apply o_pick_t); exact rfl; exact tT_; exact rfl; exact rfl) | ((with_reducible apply gdo_store); first | refine wo_store1 (h := ?_) | refine wo_storeA (h := ?_)) | ((with_reducible apply o_len); infer_instance; exact rfl; exact rfl) | ((with_reducible first | apply g_run); exact rfl; exact gG_) | ((with_reducible first | apply c_seq | apply c_block | apply c_region | apply c_nil | apply c_ret | apply c_exit | apply c_skip)) | ((with_reducible first | apply e_then | apply e_then_ret | apply e_then_exit | apply e_in | apply e_in_ret | apply e_in_same)))
  refine st_know (fun w' hw' => RunsV.at (hshs _ _ _ _ (by exact rL_) hw') hs0) ?_
  rintro ⟨br, offr, x1, k1, x2, k2, x3, n3, k3, x4, n4, k4, x5, k5, x6, k6, x7, n7, k7, rfl, hd0, hn3, g0⟩
  refine st_know (fun w' hw' => RunsV.at (hshs _ _ _ _ (by exact rL_) hw') hs1) ?_
  rintro ⟨br', offr', y1, l1, y2, l2, y3, m3, l3, y4, m4, l4, y5, l5, y6, l6, y7, m7, l7, ebr, hd1, hm3, g1⟩
  cases ebr
  have hsi : s1.items.length = 0 := by rw [f13]; rfl
  repeat' (first | ((with_reducible apply o_pick_t); exact rfl; exact decide_eq_true (by omega); exact rfl; exact rfl) | ((with_reducible apply g_run); exact rfl; exact decide_eq_true (by omega)) | ((with_reducible apply o_idx (m := 0)); infer_instance; infer_instance; exact rfl; exact rfl; exact rfl; exact rfl; omega) | ((with_reducible apply o_idx (m := 1)); infer_instance; infer_instance; exact rfl; exact rfl; exact rfl; exact rfl; omega) | ((with_reducible apply o_ldP); infer_instance; exact rfl; (intro w' hw'; first | exact SV.cell (hshs _ _ _ _ (by exact rL_) hw').1 hd0 (g0 _ _ rfl) | exact SV.cell (hshs _ _ _ _ (by exact rL_) hw').1 hd1 (g1 _ _ rfl)); exact rfl) | ((first | ((with_reducible apply o_call_pure (f := 36)); exact rfl) | ((with_reducible apply q_call_pure (f := 36)); exact rfl; kernel_rfl; exact rfl; exact sJ_)); exact eV_; exact (fun w hw => atp_calls Plt.ex14_valid Plt.ex14_w w (ex_plV (t := 14) _ _ _ _ (by unfold exN; exact rL_) hw))) | ((with_reducible first | apply o_move | apply o_assign | apply o_faddr0 | apply o_not_d); exact rfl; exact rfl) | ((with_reducible first | apply o_faddr); exact rfl; exact rfl) | ((with_reducible apply gdo_load); first | refine wo_load (h := ?_) | refine wo_loadAll (h := ?_) | refine wo_loadC (h := ?_) | refine wo_ldV (h := ?_) | refine wo_ldF (h := ?_)) | ((with_reducible first | apply o_eql | apply o_neq | apply o_extract); exact rfl; exact rfl; exact rfl) | ((with_reducible apply o_len); infer_instance; exact rfl; exact rfl) | ((with_reducible first | apply c_seq | apply c_block | apply c_region | apply c_nil | apply c_ret | apply c_exit | apply c_skip)) | ((with_reducible first | apply e_then | apply e_then_ret | apply e_then_exit | apply e_in | apply e_in_ret | apply e_in_same)))
  apply r_body; apply res1 Try.results16; exact rV_; intro w' hw
  refine ⟨by simp, hw.below (show AO _ from by exact aO_)⟩
end Go.Proofs.Ytkhaemjoekfhiaa
namespace Go.Sx
open Go Go.RowKit
section
variable {P : Program} {n : Nat} {D : List Deferred} {w0 : World} {F : List (Nat × Value)} {L : List Ent} {J J1 : Made} {Φ : Specs} {X : Act → World → Prop} {kq : Nat} {ops : Array Oper}
variable {d : Tmp} {ty : TypeId} {pos : String} {af : Array Edge} {rest : List Oper}
theorem q_ldP {t : TypeId} {x : Operand} {b p : Nat} {v : Value} (hA : TA P t false) (hx : ev F x = some (.pointer (some ⟨b, p, none⟩))) (hΦ : Φ kq = none) (hJ : SubJ ((anc ops).getD kq 0) J1 J) (hc : ∀ w, Rep w0 w (ents J1 L) → w.cell? ⟨b, p, none⟩ = some v)
    (hd : Nat.ble (d + 1) n = true) (h : St n D w0 ((d, v) :: F) L (WQ P ops w0 L Φ X (kq + 1) J rest)) : St n D w0 F L (WQ P ops w0 L Φ X kq J (⟨some d, .load t x, ty, pos, af, none⟩ :: rest)) :=
  q_val rfl hd hΦ hJ (fun a w ha hw => by
    simp [execOp, ha.eval hx, Instr.loadAt, Instr.sureAddr, loadVar, TA.h (P := P) (t := t), hc w hw]) h
end
theorem SV.cell1 {α : Type} {w : World} {k m c b off i : Nat} {enc : α → List Value} {xs : List α} {x : α} {u : Value} (h : SV w k enc (.slice (some ⟨b, off, none⟩) m c) xs) (hx : xs[i]? = some x) (hj : (enc x)[0]? = some u) : w.cell? ⟨b, off + i * k, none⟩ = some u := h.cell (j := 0) hx hj
end Go.Sx
namespace Go.Proofs.Ytkhaemjoekfhiaa
open Go Go.Sx Go.RowKit
attribute [local irreducible] WL WC WQ WR WB WF QB St Exit.then Exit.inBlock Exit.noGoto bodyPost roundPost beginK YR RG BM Calls B AgainD MeetD
/-! ## a plant that built made, as it lies -/
theorem built_plv {p : Plt.Plant} {am ai ap : Option Addr} {cm ci cp : Nat} {ds : List MD} {ys : List PD} {NM NI NP NX : List Ent} {TM TI TP : TypeId} (hM : OW TM 5 encMD (.slice am p.ms.length cm) ds NM) (hI : OW TI 3 encItem (.slice ai p.items.length ci) p.items NI) (hP : OW TP 6 encPD (.slice ap p.passes.length cp) ys NP)
    (hl : ds.length = p.ms.length ∧ ys.length = p.passes.length) (hX : Shw NX (fun w => ∀ (i : Nat) (d : MD) (m : Plt.Mach), ds[i]? = some d → p.ms[i]? = some m → MachV w d m)) (hY : Shw NX (fun w => ∀ (i : Nat) (d : PD) (y : Plt.Pass), ys[i]? = some d → p.passes[i]? = some y → PassV w d y)) :
    Shw (NM ++ (NI ++ (NP ++ NX))) (fun w => PlV w ⟨(am, p.ms.length, cm), (ai, p.items.length, ci), (ap, p.passes.length, cp), ds, ys⟩ p) := fun w0 w L L0 hr hw =>
  ⟨(Shw.left (Shw.ow encMD_len hM)) w0 w L L0 hr hw, (Shw.right (Shw.left (Shw.ow encItem_len hI))) w0 w L L0 hr hw, (Shw.right (Shw.right (Shw.left (Shw.ow encPD_len hP)))) w0 w L L0 hr hw, hl.1, hl.2,
    (Shw.right (Shw.right (Shw.right hX))) w0 w L L0 hr hw, (Shw.right (Shw.right (Shw.right hY))) w0 w L L0 hr hw⟩
def builtψ (p : Plt.Plant) (v : Value) (N : List Ent) : Prop := ∃ am cm ai ci ap cp ds ys, v = .agg #[.slice am p.ms.length cm, .slice ai p.items.length ci, .slice ap p.passes.length cp] ∧
  Shw N (fun w => PlV w ⟨(am, p.ms.length, cm), (ai, p.items.length, ci), (ap, p.passes.length, cp), ds, ys⟩ p) ∧ ∀ x ∈ N, x.own = true
/-- What the laws know of a plant that built made. -/
structure Nice (p : Plt.Plant) : Prop where
  valid : Plt.validF p = (0, 0)
  ms : 1 ≤ p.ms.length ∧ p.ms.length ≤ 3
  items : p.items.length ≤ 40
  passes : p.passes.length ≤ 6
end Go.Proofs.Ytkhaemjoekfhiaa
namespace Go.Sx.Plt
/-! ## the last run that has sorted an item -/
def lastI : Option Nat → Int
  | none => -1
  | some k => k
/-- The same, after the first n items of run k. -/
def keepsF (p : Plant) (x t : Int) (k : Nat) (r : Run) (n : Nat) : Int := if x ∈ r.items.take n ∧ sortedAt p x t k = true then (k : Int) else lastI (lastF p x t k)
end Go.Sx.Plt
namespace Go.Sx.Plt
open Go.Proofs.Ytkhaemjoekfhiaa (mslF_keys psF tkF psF_snoc tkF_snoc)
theorem Ran.stk_len {p : Plant} {h : Hall} {m : Mach} {y : Pass} {r : Run} {ready : Int} (hc : Ran p h m y r ready) : r.res.stackers.length = m.caps.length := by
  have := (srun_feeds hc.res).1
  rw [this]
  exact (Srt.playF_sz m.caps m.sweeps _).st
/-- The stacker of a stop; -1 if it has none, or the item is not read. -/
def toF (l : List Row) (stop : Int) (b : Bool) : Int := if b = true then (asF stop (tableF l)).getD (-1) else -1
theorem Ran.mem {p : Plant} (hv : Valid p) {i : Nat} {y : Pass} (hy : p.passes[i]? = some y) {m : Mach} (hm : asF y.mach (mslF p.ms) = some (m.caps.length : Int)) {r : Run} {ready : Int} (hc : Ran p (hallAt p i) m y r ready) : (∀ x ∈ r.items, x ∈ p.items.map Item.id) ∧ r.items.Nodup ∧ r.items.length ≤ 2000 := by
  have e := (takeSrc_spec hc.take).1
  rw [List.nil_append] at e
  obtain ⟨_, h1, h2⟩ := hv.feeds (Inv.all hv i) hy hm e
  exact ⟨h1, h2, by rw [hc.items hv hy]; exact hv.taken_len hy⟩
end Go.Sx.Plt
namespace Go.Proofs.Ytkhaemjoekfhiaa
open Go Go.Sx Go.RowKit
attribute [local irreducible] WL WC WQ WR WB WF QB St Exit.then Exit.inBlock Exit.noGoto bodyPost roundPost beginK YR RG BM Calls B AgainD MeetD
end Go.Proofs.Ytkhaemjoekfhiaa
namespace Go.Sx.Plt
open Go.Proofs.Ytkhaemjoekfhiaa (mslF_keys psF tkF psF_snoc tkF_snoc)
/-! ## where slices end -/
def endF (e : Int) (l : List (Int × Int)) : Int := match l.getLast? with
  | some s => s.2
  | none => e
theorem endF_nil (e : Int) : endF e [] = e := rfl
theorem endF_last (e : Int) {l : List (Int × Int)} (h : l ≠ []) : endF e l = (l.getLastD (0, 0)).2 := by
  unfold endF
  rw [List.getLastD_eq_getLast?]
  cases hl : l.getLast? with
  | none => rw [List.getLast?_eq_none_iff] at hl; exact (h hl).elim
  | some s => rfl
theorem chain_at : ∀ {l : List (Int × Int)} {e : Int} {j : Nat} {s : Int × Int}, Chain e l → l[j]? = some s → endF e (l.take j) ≤ s.1 ∧ s.1 < s.2
  | [], _, _, _, _, h => by simp at h
  | a :: r, e, 0, s, hc, h => by
    simp at h; subst h
    rw [List.take_zero, endF_nil]; exact hc.1
  | a :: r, e, j + 1, s, hc, h => by
    have h' : r[j]? = some s := by simpa using h
    have ih := chain_at hc.2 h'
    rw [List.take_succ_cons]
    have : endF e (a :: r.take j) = endF a.2 (r.take j) := by
      unfold endF
      rw [List.getLast?_cons]
      cases (r.take j).getLast? <;> rfl
    rw [this]; exact ih
/-- What the slices of a run are. -/
theorem Ran.chain {p : Plant} {h : Hall} {m : Mach} {y : Pass} {r : Run} {ready : Int} (hc : Ran p h m y r ready) (hm : rightM m) : Chain ready r.slices ∧ (∀ s ∈ r.slices, ∃ x ∈ m.shifts, x.f ≤ s.1 ∧ s.2 ≤ x.t) ∧ spanF r.slices = needOf r.items.length m.rate ∧ r.fin = endF ready r.slices ∧ ((r.slices = [] ∧ r.start = ready) ∨ ∃ s, r.slices[0]? = some s ∧ r.start = s.1) ∧ ready ≤ r.start := by
  have hw := (right_shifts hm).2
  have hn0 := need_nonneg (n := r.items.length) hm.2.1.1
  have hch := Chain.mono (show ready ≤ max 0 ready by omega) (slices_chain (rel := ready) hn0 hw)
  have hsl := hc.slices
  have hst := hc.start
  have hfi := hc.fin
  by_cases hne : r.items = []
  · rw [if_pos hne] at hsl hst hfi
    have hz : needOf r.items.length m.rate = 0 := by
      rw [hne]
      unfold needOf
      have := hm.2.1.1
      exact Int.ediv_eq_zero_of_lt (by simp; omega) (by simp; omega)
    rw [hsl, hz]
    exact ⟨trivial, by simp, rfl, by rw [endF_nil]; exact hfi, .inl ⟨rfl, hst⟩, by omega⟩
  · rw [if_neg hne] at hsl hst hfi
    have hsp := span_min (rel := ready) (l := m.shifts) hn0
    have he := hc.enough
    have hn1 : 1 ≤ needOf r.items.length m.rate := by
      have := List.length_pos_iff.2 hne
      have := hm.2.1.1
      unfold needOf
      exact Int.le_ediv_of_mul_le (by omega) (by omega)
    rw [← hsl] at hsp hch
    have hnn : r.slices ≠ [] := fun h0 => by rw [h0, spanF] at hsp; omega
    obtain ⟨s, l, e⟩ := List.exists_cons_of_ne_nil hnn
    have h0 : r.slices[0]? = some s := by rw [e]; rfl
    have hs1 : r.start = s.1 := by rw [hst, e]; rfl
    refine ⟨hch, fun s hs => ?_, by rw [hsp]; omega, by rw [endF_last _ hnn]; exact hfi, .inr ⟨s, h0, hs1⟩, ?_⟩
    · rw [hsl] at hs
      exact slices_inside hn0 s hs
    · have := chain_at hch h0
      rw [List.take_zero, endF_nil] at this
      omega
/-! ## when passes end -/
/-- The end of run j. -/
def finF (p : Plant) (j : Nat) : Int := match (playF p)[j]? with
  | some r => r.fin
  | none => -1
theorem takeSrc_max {h : Hall} : ∀ {l : List (Int × Int)} {r0 ready : Int} {acc items : List Int}, takeSrc h r0 acc l = some (ready, items) → r0 ≤ ready ∧ (∀ s ∈ l, s.1 ≠ 0 → ∃ e, asF s.1 h.ends = some e ∧ e ≤ ready) ∧ (ready = r0 ∨ ∃ s ∈ l, s.1 ≠ 0 ∧ asF s.1 h.ends = some ready)
  | [], r0, ready, acc, items, hh => by
    simp only [takeSrc, Option.some.injEq, Prod.mk.injEq] at hh
    exact ⟨by omega, by simp, .inl hh.1.symm⟩
  | (s1, s2) :: l, r0, ready, acc, items, hh => by
    rw [takeSrc] at hh
    by_cases h0 : s1 = 0
    · subst h0
      rw [if_neg (by simp)] at hh
      obtain ⟨h1, h2, h3⟩ := takeSrc_max hh
      refine ⟨h1, fun s hs hs0 => ?_, h3.imp id fun ⟨s, hs, h⟩ => ⟨s, List.mem_cons_of_mem _ hs, h⟩⟩
      rcases List.mem_cons.1 hs with rfl | hs
      · exact (hs0 rfl).elim
      · exact h2 s hs hs0
    · rw [if_pos h0] at hh
      cases he : asF s1 h.ends with
      | none => simp only [he] at hh; cases hh
      | some e =>
        simp only [he] at hh
        obtain ⟨h1, h2, h3⟩ := takeSrc_max hh
        have m1 : r0 ≤ max r0 e := Int.le_max_left r0 e
        have m2 : e ≤ max r0 e := Int.le_max_right r0 e
        refine ⟨Int.le_trans m1 h1, fun s hs hs0 => ?_, ?_⟩
        · rcases List.mem_cons.1 hs with rfl | hs
          · exact ⟨e, he, Int.le_trans m2 h1⟩
          · exact h2 s hs hs0
        · rcases h3 with h3 | ⟨s, hs, h3⟩
          · by_cases hm : e ≤ r0
            · exact .inl (by rw [h3]; exact Int.max_eq_left hm)
            · exact .inr ⟨(s1, s2), List.mem_cons_self, h0, by rw [he, h3]; congr 1; exact (Int.max_eq_right (by omega)).symm⟩
          · exact .inr ⟨s, List.mem_cons_of_mem _ hs, h3⟩
theorem takeSrc_all {h : Hall} : ∀ {l : List (Int × Int)} (r0 : Int) (acc : List Int), (∀ s ∈ l, s.1 ≠ 0 → ∃ e, asF s.1 h.ends = some e) → ∃ q, takeSrc h r0 acc l = some q
  | [], r0, acc, _ => ⟨_, rfl⟩
  | (s1, s2) :: l, r0, acc, hh => by
    rw [takeSrc]
    by_cases h0 : s1 = 0
    · subst h0
      rw [if_neg (by simp)]
      exact takeSrc_all _ _ fun s hs => hh s (List.mem_cons_of_mem _ hs)
    · rw [if_pos h0]
      obtain ⟨e, he⟩ := hh (s1, s2) List.mem_cons_self h0
      dsimp only at he
      simp only [he]
      exact takeSrc_all _ _ fun s hs => hh s (List.mem_cons_of_mem _ hs)
/-! ## the law's words -/
def takesF (src : List (Int × Int)) (id : Int) : Bool := src.any fun s => s.1 = id
/-- When a pass is ready by the runs of the first j passes, and whether what it takes was run. -/
def rdF (p : Plant) (y : Pass) : Nat → Int × Bool
  | 0 => (y.rel, true)
  | j + 1 => match p.passes[j]? with
    | some z => (if takesF y.src z.id = true ∨ z.mach = y.mach then max (rdF p y j).1 (finF p j) else (rdF p y j).1, (rdF p y j).2 && (!takesF y.src z.id || decide (0 ≤ finF p j)))
    | none => rdF p y j
/-! ## working time inside a shift -/
def insideF (sf su : Int) (l : List Sh) : Bool := l.any fun h => decide (h.f ≤ sf ∧ su ≤ h.t)
end Go.Sx.Plt
namespace Go.Sx.Seq
/-- The stops of a route of n stops. -/
def routeN (vs : List UInt8) (most : Int) (n : Nat) : List Stop := (List.range n).map fun (i : Nat) => ⟨1000 - 3 * (i : Int), 1 + ((vs.getD i 0).toNat : Int) % most⟩
def routeF (vs : List UInt8) (most : Int) : List Stop := routeN vs most (min vs.length 200)
def capsN (vs : List UInt8) (n : Nat) : List Int := (List.range n).map fun (i : Nat) => 1 + ((vs.getD i 0).toNat : Int)
def capsF (vs : List UInt8) : List Int := if vs = [] then [1] else capsN vs (min vs.length 64)
/-- One pick of an item: the items that were taken of each stop, and what was fed. -/
def feedStep (l : List Stop) (st : List Int × List Int) (v : UInt8) : List Int × List Int :=
  match l[v.toNat % l.length]? with
  | none => st
  | some s => if st.1.getD (v.toNat % l.length) 0 < s.vol then (st.1.set (v.toNat % l.length) (st.1.getD (v.toNat % l.length) 0 + 1), st.2 ++ [s.id]) else st
def feedN (l : List Stop) (vs : List UInt8) (n : Nat) : List Int × List Int := (vs.take n).foldl (feedStep l) (List.replicate l.length 0, [])
def feedOut (l : List Stop) (vs : List UInt8) : List Int := if l = [] then [] else (feedN l vs (min vs.length 2000)).2
def atF : Nat → List Stop → Int → Int
  | _, [], _ => -1
  | i, s :: r, id => if s.id = id then i else atF (i + 1) r id
/-! ## routes and machines are right -/
/-! ## items within the volumes -/
/-- What has been fed: items of the route, none of a stop more than its volume. -/
structure FedOK (l : List Stop) (left out : List Int) : Prop where
  len : left.length = l.length
  mem : ∀ x ∈ out, ∃ s ∈ l, s.id = x
  cnt : ∀ (k : Nat) (s : Stop), l[k]? = some s → left[k]? = some (out.count s.id : Int) ∧ out.count s.id ≤ s.vol
theorem FedOK.nil {l : List Stop} (hr : routeFrom [] l) : FedOK l (List.replicate l.length 0) [] :=
  ⟨by simp, by simp, fun k s hk => by
    have hlt := (List.getElem?_eq_some_iff.1 hk).1
    have := hr.1 s (List.mem_of_getElem? hk)
    unfold Stop.ok at this
    simp [hlt]; omega⟩
theorem ids_inj {l : List Stop} (hr : (l.map Stop.id).Nodup) {i j : Nat} {s t : Stop} (hi : l[i]? = some s) (hj : l[j]? = some t) (h : s.id = t.id) : i = j := by
  obtain ⟨b1, c1⟩ := List.getElem?_eq_some_iff.1 (show (l.map Stop.id)[i]? = some s.id by simp [hi])
  obtain ⟨b2, c2⟩ := List.getElem?_eq_some_iff.1 (show (l.map Stop.id)[j]? = some t.id by simp [hj])
  have hp := List.pairwise_iff_getElem.1 hr
  rcases Nat.lt_trichotomy i j with hl | hl | hl
  · exact absurd (by rw [c1, c2, h]) (hp i j b1 b2 hl)
  · exact hl
  · exact absurd (by rw [c1, c2, h]) (hp j i b2 b1 hl)
theorem FedOK.step {l : List Stop} (hr : routeFrom [] l) {left out : List Int} (h : FedOK l left out) (v : UInt8) : FedOK l (feedStep l (left, out) v).1 (feedStep l (left, out) v).2 := by
  unfold feedStep
  split
  · exact h
  · rename_i s hs
    split
    · rename_i hlt
      simp only [] at hlt ⊢
      obtain ⟨hc1, hc2⟩ := h.cnt _ s hs
      have hget : left.getD (v.toNat % l.length) 0 = (out.count s.id : Int) := by simp [hc1]
      rw [hget] at hlt ⊢
      refine ⟨by simpa using h.len, fun x hx => ?_, fun k t hk => ?_⟩
      · rcases List.mem_append.1 hx with hx | hx
        · exact h.mem x hx
        · simp at hx; subst hx; exact ⟨s, List.mem_of_getElem? hs, rfl⟩
      · obtain ⟨g1, g2⟩ := h.cnt k t hk
        rw [List.count_append, List.count_singleton, List.getElem?_set]
        by_cases e : v.toNat % l.length = k
        · subst e
          rw [hs] at hk; cases hk
          have hlt' := (List.getElem?_eq_some_iff.1 hs).1
          have hlt2 : v.toNat % l.length < left.length := by rw [h.len]; exact hlt'
          simp [hlt2]; omega
        · have hne : (s.id == t.id) = false := by
            have : s.id ≠ t.id := fun he => e (ids_inj hr.2.1 hs hk he)
            simpa using this
          simp [e, hne]
          exact ⟨g1, g2⟩
    · exact h
/-- Items within the volumes. -/
structure Within (l : List Stop) (items : List Int) : Prop where
  mem : ∀ x ∈ items, ∃ s ∈ l, s.id = x
  cnt : ∀ s ∈ l, items.count s.id ≤ s.vol
  len : items.length ≤ 2000
end Go.Sx.Seq
namespace Go.Sx.Seq
def lexLt (a b : Seat) : Prop := a.second < b.second ∨ (a.second = b.second ∧ a.first < b.first)
def nextTo (a b : Seat) : Prop := (b.second = a.second ∧ b.first = a.first + 1) ∨ (a.second < b.second ∧ b.first = 0)
theorem alongF_full {limit : Nat} : ∀ (l : List Stop) (cur held : Nat) (load : Int) (cs : List Int), (alongF limit l cur held load cs).length = l.length → (alongF limit l cur held load cs).map Seat.asStop = l
  | [], _, _, _, _, _ => by simp [alongF]
  | s :: r, cur, held, load, cs, h => by
    rw [alongF] at h ⊢
    split at h
    · simp at h
    · rename_i cur' held' load' cs' hp
      simp only [List.map_cons, List.length_cons] at h ⊢
      rw [alongF_full r _ _ _ _ (by omega)]
      rfl
theorem alongF_ge {limit : Nat} : ∀ (l : List Stop) (cur held : Nat) (load : Int) (cs : List Int), ∀ x ∈ alongF limit l cur held load cs, (cur : Int) < x.second ∨ (x.second = cur ∧ (held : Int) ≤ x.first)
  | [], _, _, _, _, x, hx => by simp [alongF] at hx
  | s :: r, cur, held, load, cs, x, hx => by
    rw [alongF] at hx
    split at hx
    · cases hx
    · rename_i cur' held' load' cs' hp
      obtain ⟨_, h2, _, _, _, h5⟩ := place_spec hp
      rcases List.mem_cons.1 hx with rfl | hx
      · simp only []; omega
      · have := alongF_ge r _ _ _ _ x hx
        omega
theorem alongF_pairwise {limit : Nat} : ∀ (l : List Stop) (cur held : Nat) (load : Int) (cs : List Int), (alongF limit l cur held load cs).Pairwise lexLt
  | [], _, _, _, _ => by simp [alongF]
  | s :: r, cur, held, load, cs => by
    rw [alongF]
    split
    · exact List.Pairwise.nil
    · refine List.Pairwise.cons (fun x hx => ?_) (alongF_pairwise r _ _ _ _)
      have := alongF_ge r _ _ _ _ x hx
      unfold lexLt
      simp only []; omega
theorem alongF_head {limit : Nat} {l : List Stop} {cur held : Nat} {load : Int} {cs : List Int} {h : Seat} (hh : (alongF limit l cur held load cs)[0]? = some h) : (h.second = cur ∧ h.first = held) ∨ ((cur : Int) < h.second ∧ h.first = 0) := by
  cases l with
  | nil => simp [alongF] at hh
  | cons s r =>
    rw [alongF] at hh
    split at hh
    · cases hh
    · rename_i cur' held' load' cs' hp
      obtain ⟨_, h2, _, _, _, h5⟩ := place_spec hp
      simp at hh; subst hh
      simp only []; omega
theorem alongF_next {limit : Nat} : ∀ (l : List Stop) (cur held : Nat) (load : Int) (cs : List Int) (i : Nat) (a b : Seat), (alongF limit l cur held load cs)[i]? = some a → (alongF limit l cur held load cs)[i + 1]? = some b → nextTo a b
  | [], _, _, _, _, i, a, b, ha, _ => by simp [alongF] at ha
  | s :: r, cur, held, load, cs, i, a, b, ha, hb => by
    rw [alongF] at ha hb
    split at ha
    · cases ha
    · rename_i cur' held' load' cs' hp
      rw [hp] at hb
      simp only [List.getElem?_cons_succ] at hb
      cases i with
      | zero =>
        simp at ha; subst ha
        have := alongF_head hb
        unfold nextTo
        simp only []; omega
      | succ i =>
        simp only [List.getElem?_cons_succ] at ha
        exact alongF_next r _ _ _ _ i a b ha hb
theorem misF_ok {n : Nat} : ∀ {l : List Seat} {q : Option Seat} {i : Nat}, (∀ s ∈ l, (0 ≤ s.first ∧ s.first < n) ∧ (0 ≤ s.second ∧ s.second < n)) → l.Pairwise lexLt → (∀ a, q = some a → ∀ s ∈ l, lexLt a s) → misF n q i l = none
  | [], _, _, _, _, _ => by simp [misF]
  | s :: r, q, i, hr, hp, hq => by
    have h1 := hr s List.mem_cons_self
    have hp' := List.pairwise_cons.1 hp
    have ih : misF n (some s) (i + 1) r = none := misF_ok (fun x hx => hr x (List.mem_cons_of_mem _ hx)) hp'.2 (fun a ha x hx => by cases ha; exact hp'.1 x hx)
    cases q with
    | none => rw [misF_first h1]; exact ih
    | some a =>
      have := hq a rfl s List.mem_cons_self
      unfold lexLt at this
      rw [misF_next h1, if_neg (by omega)]; exact ih
theorem diffF_self : ∀ (fs ss : List Int) (i : Nat), diffF i fs ss fs ss = none
  | [], _, _ => by simp [diffF]
  | _ :: _, [], _ => by simp [diffF]
  | f :: fs, s :: ss, i => by
    rw [diffF, if_neg (by simp)]
    exact diffF_self fs ss (i + 1)
theorem overF_none : ∀ {caps fs ss : List Int} {i : Nat}, fs.length = caps.length → ss.length = caps.length → (overF i caps fs ss = none ↔ ∀ (k : Nat) (c f s : Int), caps[k]? = some c → fs[k]? = some f → ss[k]? = some s → f ≤ c ∧ s ≤ c)
  | [], [], [], _, _, _ => by simp [overF]
  | c :: cs, f :: fs, s :: ss, i, h1, h2 => by
    rw [overF]
    have ih := overF_none (caps := cs) (fs := fs) (ss := ss) (i := i + 1) (by simpa using h1) (by simpa using h2)
    by_cases hb : c < f ∨ c < s
    · rw [if_pos hb]
      constructor
      · intro h; cases h
      · intro h
        have := h 0 c f s rfl rfl rfl
        omega
    · rw [if_neg hb, ih]
      constructor
      · intro h k c' f' s' hc hf hs
        cases k with
        | zero => simp at hc hf hs; omega
        | succ k => exact h k c' f' s' (by simpa using hc) (by simpa using hf) (by simpa using hs)
      · intro h k c' f' s' hc hf hs
        exact h (k + 1) c' f' s' (by simpa using hc) (by simpa using hf) (by simpa using hs)
/-- A plan as Make makes it. -/
structure Good (l : List Stop) (caps : List Int) (p : Plan) : Prop where
  caps_eq : p.caps = caps
  stops : p.seats.map Seat.asStop = l
  pw : p.seats.Pairwise lexLt
  next : ∀ (i : Nat) (a b : Seat), p.seats[i]? = some a → p.seats[i + 1]? = some b → nextTo a b
  range : ∀ s ∈ p.seats, (0 ≤ s.first ∧ s.first < caps.length) ∧ (0 ≤ s.second ∧ s.second < caps.length)
  first_eq : p.first = loadsF Seat.first caps.length p.seats
  second_eq : p.second = loadsF Seat.second caps.length p.seats
  over : overF 0 caps p.first p.second = none
theorem rule_good {l : List Stop} {caps : List Int} {L : Nat} (hr : routeFrom [] l) (hL : L ≤ caps.length) (hlen : ¬ (rule L l caps).length < l.length) (ho : overF 0 caps (loadsF Seat.first caps.length (rule L l caps)) (loadsF Seat.second caps.length (rule L l caps)) = none) :
    Good l caps ⟨caps, rule L l caps, loadsF Seat.first caps.length (rule L l caps), loadsF Seat.second caps.length (rule L l caps)⟩ := by
  have h1 := rule_len L l caps
  refine ⟨rfl, alongF_full l 0 0 0 caps (by unfold rule at h1 hlen; omega), alongF_pairwise _ _ _ _ _, alongF_next _ _ _ _ _, fun s hs => ?_, rfl, rfl, ho⟩
  have := rule_range hL hr.1 s hs
  exact ⟨this.1, this.2.1⟩
theorem limits_spec {l : List Stop} {caps : List Int} (hr : routeFrom [] l) : ∀ n, n ≤ caps.length → limits l caps n = (.zero, 4) ∨ ∃ p, limits l caps n = (p, 0) ∧ Good l caps p
  | 0, _ => .inl rfl
  | n + 1, hn => by
    rw [limits]
    by_cases h1 : (rule (n + 1) l caps).length < l.length
    · rw [if_pos h1]; exact limits_spec hr n (by omega)
    · rw [if_neg h1]
      cases ho : overF 0 caps (loadsF Seat.first caps.length (rule (n + 1) l caps)) (loadsF Seat.second caps.length (rule (n + 1) l caps)) with
      | some k => exact limits_spec hr n (by omega)
      | none => exact .inr ⟨_, rfl, rule_good hr hn h1 ho⟩
theorem makeF_spec {l : List Stop} {caps : List Int} (hm : machineOk caps) (hr : routeFrom [] l) (hl : l.length ≤ 1000) : makeF l caps = (.zero, 4) ∨ ∃ p, makeF l caps = (p, 0) ∧ Good l caps p := by
  unfold makeF
  rw [if_neg (fun h => h hm), if_neg (by omega), wrongF_none.2 hr]
  simp only []
  by_cases h0 : l = []
  · rw [if_pos h0]
    subst h0
    refine .inr ⟨_, rfl, rfl, rfl, by simp, by simp, by simp, rfl, rfl, ?_⟩
    rw [overF_none (by simp) (by simp)]
    intro k c f s hc hf hs
    have hlt := (List.getElem?_eq_some_iff.1 hc).1
    simp [hlt] at hf hs
    have := hm.2 c (List.mem_of_getElem? hc)
    omega
  · rw [if_neg h0]
    exact limits_spec hr _ (by omega)
theorem Good.check {l : List Stop} {caps : List Int} {p : Plan} (h : Good l caps p) (hm : machineOk caps) (hr : routeFrom [] l) (hl : l.length ≤ 1000) : checkF p = (0, 0) := by
  have hs : p.seats.length = l.length := by rw [← h.stops]; simp
  unfold checkF
  rw [h.caps_eq, if_neg (fun g => g hm), if_neg (by omega), h.stops, wrongF_none.2 hr]
  simp only []
  rw [misF_ok h.range h.pw (by simp)]
  simp only []
  rw [if_neg (by rw [h.first_eq, h.second_eq, loadsF_len, loadsF_len]; simp), ← h.first_eq, ← h.second_eq, diffF_self]
  simp only []
  rw [h.over]
/-! ## items that are fed -/
theorem feedF_ok {seats : List Seat} : ∀ {items fed : List Int}, (∀ x ∈ items, ∃ s, findF seats x = some s ∧ ((fed ++ items).count x : Int) ≤ s.vol) → feedF seats fed items = 0
  | [], _, _ => rfl
  | x :: r, fed, h => by
    obtain ⟨s, h1, h2⟩ := h x List.mem_cons_self
    rw [feedF, h1]
    simp only []
    have hc : fed.count x < (fed ++ x :: r).count x := by rw [List.count_append, List.count_cons_self]; omega
    rw [if_neg (by omega)]
    refine feedF_ok fun y hy => ?_
    have := h y (List.mem_cons_of_mem _ hy)
    rwa [List.append_assoc, List.singleton_append]
theorem findF_of {seats : List Seat} (hnd : (seats.map Seat.stop).Nodup) {k : Nat} {s : Seat} (hk : seats[k]? = some s) : findF seats s.stop = some s := by
  unfold findF
  have hm : s ∈ seats := List.mem_of_getElem? hk
  cases hf : seats.find? (fun t => t.stop == s.stop) with
  | none =>
    have := List.find?_eq_none.1 hf s hm
    simp at this
  | some t =>
    have h1 := List.find?_some hf
    simp at h1
    obtain ⟨j, hj⟩ := List.getElem?_of_mem (List.mem_of_find?_eq_some hf)
    obtain ⟨b1, c1⟩ := List.getElem?_eq_some_iff.1 (show (seats.map Seat.stop)[j]? = some t.stop by simp [hj])
    obtain ⟨b2, c2⟩ := List.getElem?_eq_some_iff.1 (show (seats.map Seat.stop)[k]? = some s.stop by simp [hk])
    have hp := List.pairwise_iff_getElem.1 hnd
    rcases Nat.lt_trichotomy j k with hl | hl | hl
    · exact absurd (by rw [c1, c2, h1]) (hp j k b1 b2 hl)
    · subst hl; rw [hj] at hk; exact hk
    · exact absurd (by rw [c1, c2, h1]) (hp k j b2 b1 hl)
theorem Good.nodup {l : List Stop} {caps : List Int} {p : Plan} (h : Good l caps p) (hr : routeFrom [] l) : (p.seats.map Seat.stop).Nodup := by
  have := hr.2.1
  rw [← h.stops, List.map_map] at this
  exact this
theorem Good.seat {l : List Stop} {caps : List Int} {p : Plan} (h : Good l caps p) {k : Nat} {t : Stop} (hk : l[k]? = some t) : ∃ s, p.seats[k]? = some s ∧ s.stop = t.id ∧ s.vol = t.vol := by
  have := h.stops
  rw [← this, List.getElem?_map] at hk
  cases hs : p.seats[k]? with
  | none => rw [hs] at hk; cases hk
  | some s => rw [hs] at hk; cases hk; exact ⟨s, rfl, rfl, rfl⟩
theorem Good.found {l : List Stop} {caps : List Int} {p : Plan} (h : Good l caps p) (hr : routeFrom [] l) {items : List Int} (hw : Within l items) {x : Int} (hx : x ∈ items) : ∃ (k : Nat) (t : Stop) (s : Seat), l[k]? = some t ∧ t.id = x ∧ p.seats[k]? = some s ∧ s.stop = x ∧ s.vol = t.vol ∧ findF p.seats x = some s := by
  obtain ⟨t, ht, rfl⟩ := hw.mem x hx
  obtain ⟨k, hk⟩ := List.getElem?_of_mem ht
  obtain ⟨s, h1, h2, h3⟩ := h.seat hk
  exact ⟨k, t, s, hk, rfl, h1, h2, h3, by rw [← h2]; exact findF_of (h.nodup hr) h1⟩
theorem Good.feed {l : List Stop} {caps : List Int} {p : Plan} (h : Good l caps p) (hr : routeFrom [] l) {items : List Int} (hw : Within l items) : feedF p.seats [] items = 0 := by
  refine feedF_ok fun x hx => ?_
  obtain ⟨k, t, s, h1, h2, h3, h4, h5, h6⟩ := h.found hr hw hx
  refine ⟨s, h6, ?_⟩
  have := hw.cnt t (List.mem_of_getElem? h1)
  rw [h2] at this
  rw [List.nil_append, h5]; exact this
/-! ## passes -/
theorem passF_succ' (n : Nat) (key : Nat → Nat) (l : List Nat) : passF (n + 1) key l = passF n key l ++ [l.filter fun i => key i = n] := by simp [passF, List.range_succ]
theorem passF_cnt (key : Nat → Nat) (l : List Nat) (a : Nat) : ∀ n, (passF n key l).flatten.count a = if key a < n then l.count a else 0
  | 0 => by simp [passF]
  | n + 1 => by
    rw [passF_succ', List.flatten_append, List.count_append, passF_cnt key l a n]
    simp only [List.flatten_cons, List.flatten_nil, List.append_nil]
    by_cases h1 : key a = n
    · rw [if_neg (by omega), if_pos (by omega), List.count_filter (by simpa using h1)]; omega
    · have h2 : (l.filter fun i => decide (key i = n)).count a = 0 := List.count_eq_zero.2 fun hm => h1 (by simpa using (List.mem_filter.1 hm).2)
      rw [h2]
      by_cases h3 : key a < n
      · rw [if_pos h3, if_pos (by omega)]; omega
      · rw [if_neg h3, if_neg (by omega)]
theorem passF_perm {n : Nat} {key : Nat → Nat} {l : List Nat} (h : ∀ i ∈ l, key i < n) : (passF n key l).flatten.Perm l := by
  rw [List.perm_iff_count]
  intro a
  rw [passF_cnt]
  split
  · rfl
  · rename_i hn
    exact (List.count_eq_zero.2 fun hm => hn (h a hm)).symm
theorem passF_pairwise {n : Nat} {key : Nat → Nat} {l : List Nat} {S : Nat → Nat → Prop} (h : l.Pairwise S) : (passF n key l).flatten.Pairwise fun i j => key i < key j ∨ (key i = key j ∧ S i j) := by
  rw [List.pairwise_flatten]
  constructor
  · intro r hr
    obtain ⟨k, _, rfl⟩ := List.mem_map.1 hr
    have h1 : (l.filter fun i => decide (key i = k)).Pairwise S := h.filter _
    refine List.Pairwise.imp_of_mem ?_ h1
    intro a b ha hb hs
    have e1 : key a = k := by simpa using (List.mem_filter.1 ha).2
    have e2 : key b = k := by simpa using (List.mem_filter.1 hb).2
    exact .inr ⟨by omega, hs⟩
  · rw [passF]
    refine List.pairwise_map.2 (List.Pairwise.imp ?_ (List.pairwise_lt_range (n := n)))
    intro a b hab x hx y hy
    have e1 : key x = a := by simpa using (List.mem_filter.1 hx).2
    have e2 : key y = b := by simpa using (List.mem_filter.1 hy).2
    exact .inl (by omega)
theorem keyF_at {seats : List Seat} {items : List Int} {g : Seat → Int} {i : Nat} {x : Int} {s : Seat} (hx : items[i]? = some x) (hs : findF seats x = some s) : keyF seats items g i = (g s).toNat := by
  unfold keyF; rw [hx]; simp [hs]
/-- The order of a run is that of the keys. -/
theorem order_sorted (p : Plan) (items : List Int) : (runF p items).order.Pairwise fun i j => keyF p.seats items Seat.second i < keyF p.seats items Seat.second j ∨ (keyF p.seats items Seat.second i = keyF p.seats items Seat.second j ∧ (keyF p.seats items Seat.first i < keyF p.seats items Seat.first j ∨ (keyF p.seats items Seat.first i = keyF p.seats items Seat.first j ∧ i < j))) := by
  show (passF _ _ _).flatten.Pairwise _
  exact passF_pairwise (passF_pairwise List.pairwise_lt_range)
theorem Good.keys {l : List Stop} {caps : List Int} {p : Plan} (h : Good l caps p) (hr : routeFrom [] l) {items : List Int} (hw : Within l items) {i : Nat} (hi : i < items.length) : ∃ (x : Int) (k : Nat) (t : Stop) (s : Seat), items[i]? = some x ∧ l[k]? = some t ∧ t.id = x ∧ p.seats[k]? = some s ∧ findF p.seats x = some s ∧
    keyF p.seats items Seat.first i = s.first.toNat ∧ keyF p.seats items Seat.second i = s.second.toNat ∧ (0 ≤ s.first ∧ s.first < caps.length) ∧ (0 ≤ s.second ∧ s.second < caps.length) := by
  have hx : items[i]? = some items[i] := List.getElem?_eq_getElem hi
  obtain ⟨k, t, s, h1, h2, h3, h4, h5, h6⟩ := h.found hr hw (List.mem_of_getElem? hx)
  have hrg := h.range s (List.mem_of_getElem? h3)
  exact ⟨_, k, t, s, hx, h1, h2, h3, h6, keyF_at hx h6, keyF_at hx h6, hrg.1, hrg.2⟩
theorem Good.perms {l : List Stop} {caps : List Int} {p : Plan} (h : Good l caps p) (hr : routeFrom [] l) {items : List Int} (hw : Within l items) : (runF p items).first.flatten.Perm (List.range items.length) ∧ (runF p items).order.Perm (List.range items.length) := by
  have h1 : (runF p items).first.flatten.Perm (List.range items.length) := by
    refine passF_perm fun i hi => ?_
    obtain ⟨x, k, t, s, g1, g2, g3, g4, g5, g6, g7, g8, g9⟩ := h.keys hr hw (List.mem_range.1 hi)
    rw [g6, h.caps_eq]; omega
  refine ⟨h1, ?_⟩
  have h2 : (runF p items).order.Perm (runF p items).first.flatten := by
    refine passF_perm fun i hi => ?_
    obtain ⟨x, k, t, s, g1, g2, g3, g4, g5, g6, g7, g8, g9⟩ := h.keys hr hw (List.mem_range.1 (h1.mem_iff.1 hi))
    rw [g7, h.caps_eq]; omega
  exact h2.trans h1
theorem atF_at : ∀ {l : List Stop} {i k : Nat} {t : Stop}, (l.map Stop.id).Nodup → l[k]? = some t → atF i l t.id = i + k
  | [], _, _, _, _, h => by simp at h
  | s :: r, i, 0, t, _, h => by
    simp at h; subst h
    rw [atF, if_pos rfl]; simp
  | s :: r, i, k + 1, t, hnd, h => by
    simp only [List.map_cons, List.nodup_cons] at hnd
    have hm : t ∈ r := List.mem_of_getElem? (by simpa using h)
    rw [atF, if_neg (fun e => hnd.1 (by rw [e]; exact List.mem_map.2 ⟨t, hm, rfl⟩)), atF_at hnd.2 (by simpa using h)]
    simp; omega
/-- Items one after the other at the end: in the order of the route, those of a stop as they were fed. -/
theorem Good.order {l : List Stop} {caps : List Int} {p : Plan} (h : Good l caps p) (hr : routeFrom [] l) {items : List Int} (hw : Within l items) {j a b : Nat} (ha : (runF p items).order[j]? = some a) (hb : (runF p items).order[j + 1]? = some b) :
    ∃ x y, items[a]? = some x ∧ items[b]? = some y ∧ (atF 0 l x < atF 0 l y ∨ (atF 0 l x = atF 0 l y ∧ a < b)) := by
  have hp := (h.perms hr hw).2
  have ha' := List.mem_range.1 (hp.mem_iff.1 (List.mem_of_getElem? ha))
  have hb' := List.mem_range.1 (hp.mem_iff.1 (List.mem_of_getElem? hb))
  obtain ⟨x, k, t, s, g1, g2, g3, g4, g5, g6, g7, g8, g9⟩ := h.keys hr hw ha'
  obtain ⟨y, k', t', s', f1, f2, f3, f4, f5, f6, f7, f8, f9⟩ := h.keys hr hw hb'
  refine ⟨x, y, g1, f1, ?_⟩
  have hsort := order_sorted p items
  obtain ⟨b1, c1⟩ := List.getElem?_eq_some_iff.1 ha
  obtain ⟨b2, c2⟩ := List.getElem?_eq_some_iff.1 hb
  have hR := List.pairwise_iff_getElem.1 hsort j (j + 1) b1 b2 (by omega)
  rw [c1, c2, g6, g7, f6, f7] at hR
  rw [← g3, ← f3, atF_at hr.2.1 g2, atF_at hr.2.1 f2]
  rcases Nat.lt_trichotomy k k' with hlt | heq | hgt
  · left; omega
  · subst heq
    rw [g4] at f4; cases f4
    right; omega
  · exfalso
    obtain ⟨d1, e1⟩ := List.getElem?_eq_some_iff.1 g4
    obtain ⟨d2, e2⟩ := List.getElem?_eq_some_iff.1 f4
    have hL := List.pairwise_iff_getElem.1 h.pw k' k d2 d1 hgt
    rw [e1, e2] at hL
    unfold lexLt at hL
    omega
end Go.Sx.Seq
