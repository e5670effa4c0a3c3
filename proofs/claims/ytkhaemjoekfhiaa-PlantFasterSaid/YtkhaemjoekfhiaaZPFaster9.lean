/- A part of the proofs of this seat: a small logic of walks, plain laws, and what some of the program's functions compute, shown by walks through their code. Conditions: the hypotheses that each theorem names. -/
import Derived.Test.YtkhaemjoekfhiaaZPFaster3
import Derived.Test.YtkhaemjoekfhiaaZPFaster8
import Derived.Test.YtkhaemjoekfhiaaZPFaster6
set_option linter.unusedSimpArgs false
set_option linter.unusedVariables false
set_option linter.unusedSectionVars false
namespace Go.Sx.Plt
/-- The plant of the chapter. -/
def exPl (t : Int) : Plant := ⟨[⟨1, 0, 2, [5, 5], [⟨0, 1⟩, ⟨10, t⟩]⟩], [⟨1, 7, 1⟩, ⟨2, 6, 1⟩, ⟨3, 5, 1⟩, ⟨4, 7, 1⟩, ⟨5, 6, 1⟩],
  [⟨3, 1, 0, [(0, 1)], [⟨5, 0⟩, ⟨6, 1⟩, ⟨7, 0⟩], []⟩, ⟨4, 1, 0, [(3, 0), (3, 1)], [⟨5, 0⟩, ⟨6, 0⟩, ⟨7, 1⟩], []⟩]⟩
theorem ex20_valid : validF (exPl 20) = (0, 0) := by decide +kernel
theorem ex14_valid : validF (exPl 14) = (0, 0) := by decide +kernel
theorem ex20_w1 : whereF (exPl 20) 5 11 = ((1, 0, 1), 0) := by decide +kernel
theorem ex20_w2 : whereF (exPl 20) 5 12 = ((2, 3, 1), 0) := by decide +kernel
theorem ex20_w3 : whereF (exPl 20) 5 14 = ((2, 3, 1), 0) := by decide +kernel
theorem ex20_w4 : whereF (exPl 20) 5 15 = ((2, 4, 0), 0) := by decide +kernel
theorem ex14_w : whereF (exPl 14) 5 99 = ((2, 3, 1), 0) := by decide +kernel
theorem ex20_r0 : ∃ r, (playF (exPl 20))[0]? = some r ∧ r.start = 0 ∧ r.fin = 12 ∧ r.pass = 3 ∧ r.slices = [(0, 1), (10, 12)] ∧ r.res.stackers = [[1, 3, 4], [2, 5]] := ⟨(playF (exPl 20)).headD ⟨0, 0, 0, [], [], Srt.M.new 0 0⟩, by kernel_rfl, by kernel_rfl, by kernel_rfl, by kernel_rfl, by kernel_rfl, by kernel_rfl⟩
theorem ex20_r1 : ∃ r, (playF (exPl 20))[1]? = some r ∧ r.start = 12 ∧ r.fin = 15 ∧ r.items = [1, 3, 4, 2, 5] ∧ r.res.stackers = [[3, 2, 5], [1, 4]] := ⟨(playF (exPl 20)).tail.headD ⟨0, 0, 0, [], [], Srt.M.new 0 0⟩, by kernel_rfl, by kernel_rfl, by kernel_rfl, by kernel_rfl, by kernel_rfl⟩
theorem ex14_r0 : ∃ r, (playF (exPl 14))[0]? = some r ∧ r.fin = 12 := ⟨(playF (exPl 14)).headD ⟨0, 0, 0, [], [], Srt.M.new 0 0⟩, by kernel_rfl, by kernel_rfl⟩
theorem ex14_r1 : ∃ r, (playF (exPl 14))[1]? = some r ∧ r.start = -1 ∧ r.fin = -1 ∧ r.items = [] := ⟨(playF (exPl 14)).tail.headD ⟨0, 0, 0, [], [], Srt.M.new 0 0⟩, by kernel_rfl, by kernel_rfl, by kernel_rfl, by kernel_rfl⟩
end Go.Sx.Plt
namespace Go.Proofs.Ytkhaemjoekfhiaa
open Go Go.Sx Go.RowKit
attribute [local irreducible] WL WC WQ WR WB WF QB St Exit.then Exit.inBlock Exit.noGoto bodyPost roundPost beginK YR RG BM Calls B AgainD MeetD
/-! ## the plant of the chapter -/
def exQ (b1 b2 b3 b4 b5 b6 b7 b8 b9 : Nat) : PlD := ⟨(some ⟨b3, 0, none⟩, 1, 1), (some ⟨b4, 0, none⟩, 5, 5), (some ⟨b9, 0, none⟩, 2, 2),
  [⟨1, 0, 2, (some ⟨b1, 0, none⟩, 2, 2), (some ⟨b2, 0, none⟩, 2, 2)⟩], [⟨3, 1, 0, (some ⟨b5, 0, none⟩, 1, 1), (some ⟨b6, 0, none⟩, 3, 3), nsd⟩, ⟨4, 1, 0, (some ⟨b7, 0, none⟩, 2, 2), (some ⟨b8, 0, none⟩, 3, 3), nsd⟩]⟩
def exN (b1 b2 b3 b4 b5 b6 b7 b8 b9 : Nat) (t : Int) : List Ent := [⟨b9, Ce [.int .i64 3, .int .i64 1, .int .i64 0, slc b5 1, slc b6 3, .slice none 0 0, .int .i64 4, .int .i64 1, .int .i64 0, slc b7 2, slc b8 3, .slice none 0 0] 58, true⟩, ⟨b8, Ce [.int .i64 5, .int .i64 0, .int .i64 6, .int .i64 0, .int .i64 7, .int .i64 1] 76, true⟩, ⟨b7, Ce [.int .i64 3, .int .i64 0, .int .i64 3, .int .i64 1] 64, true⟩, ⟨b6, Ce [.int .i64 5, .int .i64 0, .int .i64 6, .int .i64 1, .int .i64 7, .int .i64 0] 76, true⟩, ⟨b5, Ce [.int .i64 0, .int .i64 1] 64, true⟩, ⟨b4, Ce [.int .i64 1, .int .i64 7, .int .i64 1, .int .i64 2, .int .i64 6, .int .i64 1, .int .i64 3, .int .i64 5, .int .i64 1, .int .i64 4, .int .i64 7, .int .i64 1, .int .i64 5, .int .i64 6, .int .i64 1] 38, true⟩, ⟨b3, Ce [.int .i64 1, .int .i64 0, .int .i64 2, slc b1 2, slc b2 2] 61, true⟩, ⟨b2, Ce [.int .i64 0, .int .i64 1, .int .i64 10, .int .i64 t] 70, true⟩, ⟨b1, Ce [.int .i64 5, .int .i64 5] 3, true⟩]
theorem exN_own {b1 b2 b3 b4 b5 b6 b7 b8 b9 : Nat} {t : Int} : ∀ x ∈ exN b1 b2 b3 b4 b5 b6 b7 b8 b9 t, x.own = true := by simp [exN]
theorem ex_plV {b1 b2 b3 b4 b5 b6 b7 b8 b9 : Nat} {t : Int} : Shw (exN b1 b2 b3 b4 b5 b6 b7 b8 b9 t) (fun w => PlV w (exQ b1 b2 b3 b4 b5 b6 b7 b8 b9) (Plt.exPl t)) := fun w0 w L L0 hr hw => by
  have hw2 : Rep w0 w (exN b1 b2 b3 b4 b5 b6 b7 b8 b9 t ++ L0) := hw.perm hr
  unfold exN at hw2
  simp only [List.cons_append, List.nil_append] at hw2
  refine ⟨SV.lit (n := 1) [(⟨1, 0, 2, (some ⟨b1, 0, none⟩, 2, 2), (some ⟨b2, 0, none⟩, 2, 2)⟩ : MD)] encMD_len hw2 (by exact aT_) rfl rfl (by decide), SV.lit (n := 5) (Plt.exPl t).items encItem_len hw2 (by exact aT_) rfl rfl (by decide), SV.lit (n := 2) [(⟨3, 1, 0, (some ⟨b5, 0, none⟩, 1, 1), (some ⟨b6, 0, none⟩, 3, 3), nsd⟩ : PD), ⟨4, 1, 0, (some ⟨b7, 0, none⟩, 2, 2), (some ⟨b8, 0, none⟩, 3, 3), nsd⟩] encPD_len hw2 (by exact aT_) rfl rfl (by decide), rfl, rfl, fun i d m hd hm => ?_, fun i d y hd hy => ?_⟩
  · rcases i with _ | i
    · simp [exQ] at hd
      simp [Plt.exPl] at hm
      subst hd hm
      exact ⟨rfl, rfl, rfl, SV.lit (n := 2) [5, 5] encI_len hw2 (by exact aT_) rfl rfl (by decide), SV.lit (n := 2) [⟨0, 1⟩, ⟨10, t⟩] encSh_len hw2 (by exact aT_) rfl rfl (by decide)⟩
    · simp [exQ] at hd
  · rcases i with _ | _ | i
    · simp [exQ] at hd
      simp [Plt.exPl] at hy
      subst hd hy
      exact ⟨rfl, rfl, rfl, SV.lit (n := 1) [((0 : Int), (1 : Int))] encSrc_len hw2 (by exact aT_) rfl rfl (by decide), SV.lit (n := 3) [⟨5, 0⟩, ⟨6, 1⟩, ⟨7, 0⟩] encRow_len hw2 (by exact aT_) rfl rfl (by decide), SV.nil⟩
    · simp [exQ] at hd
      simp [Plt.exPl] at hy
      subst hd hy
      exact ⟨rfl, rfl, rfl, SV.lit (n := 2) [((3 : Int), (0 : Int)), (3, 1)] encSrc_len hw2 (by exact aT_) rfl rfl (by decide), SV.lit (n := 3) [⟨5, 0⟩, ⟨6, 0⟩, ⟨7, 1⟩] encRow_len hw2 (by exact aT_) rfl rfl (by decide), SV.nil⟩
    · simp [exQ] at hd
theorem example_calls (w : World) : Calls Try.prog 35 #[] w fun e w' => ∃ v N, e = .returned v ∧ (∃ b1 b2 b3 b4 b5 b6 b7 b8 b9, v = plV (exQ b1 b2 b3 b4 b5 b6 b7 b8 b9) ∧ N = exN b1 b2 b3 b4 b5 b6 b7 b8 b9 20) ∧ Rep w w' N ∧ ∀ x ∈ N, x.own = true := by
  refine f_enter0 Try.func35 rfl Try.ntmps35 rfl (Rep.start w) ?_
  repeat' (first | ((with_reducible apply o_alloc); exact rfl; intro _) | ((with_reducible apply gdo_store); first | refine wo_store1 (h := ?_) | refine wo_storeA (h := ?_)) | ((with_reducible apply gdo_build); first | refine wo_build (h := ?_)) | ((with_reducible apply gdo_buildSlice); refine wo_buildSlice (h := fun _ => ?_)) | ((with_reducible first | apply c_seq | apply c_block | apply c_region | apply c_nil | apply c_ret | apply c_exit | apply c_skip)) | ((with_reducible first | apply e_then | apply e_then_ret | apply e_then_exit | apply e_in | apply e_in_ret | apply e_in_same)))
  apply r_body; apply res1 Try.results35; exact rV_; intro w' hw
  rename_i b0 b1 b2 b3 b4 b5 b6 b7 b8 b9
  exact ⟨_, exN b1 b2 b3 b4 b5 b6 b7 b8 b9 20, rfl, ⟨b1, b2, b3, b4, b5, b6, b7, b8, b9, rfl, rfl⟩, hw.sub (by unfold exN; exact hS_), exN_own⟩
theorem atp_calls {q : PlD} {p : Plt.Plant} {x t kd ps nu : Int} (hc : Plt.validF p = (0, 0)) (he : Plt.whereF p x t = ((kd, ps, nu), 0)) (w : World) (h : PlV w q p) : Calls Try.prog 36 #[plV q, .int .i64 x, .int .i64 t, .agg #[.int .u8 kd, .int .i64 ps, .int .i64 nu]] w fun e w' => e = .returned (.bool true) ∧ Below w.heap.size w w' := by
  obtain ⟨⟨a1, n1, c1⟩, ⟨a2, n2, c2⟩, ⟨a3, n3, c3⟩, ds, ys⟩ := q
  refine f_enter4 Try.func36 rfl Try.ntmps36 rfl (Rep.start w) ?_
  repeat' (first | ((first | ((with_reducible apply o_call_pure (f := 13)); exact rfl) | ((with_reducible apply q_call_pure (f := 13)); exact rfl; kernel_rfl; exact rfl; exact sJ_)); exact eV_; exact (fun w hw => where_calls (Plt.calm_of hc) he w (h.keep hw (by exact aO_)))) | ((with_reducible first | apply o_move | apply o_assign); exact rfl; exact rfl) | ((with_reducible apply gdo_load); first | refine wo_load (h := ?_) | refine wo_loadAll (h := ?_) | refine wo_loadC (h := ?_) | refine wo_ldV (h := ?_) | refine wo_ldF (h := ?_)) | ((with_reducible first | apply o_eql | apply o_extract); exact rfl; exact rfl; exact rfl) | ((with_reducible apply gdo_binOp_eql); refine wo_eql_s (h := ?_)) | ((with_reducible apply o_pick_t); exact rfl; exact tT_; exact rfl; exact rfl) | ((with_reducible apply o_alloc); exact rfl; intro _) | ((with_reducible apply o_box); exact rfl; exact rfl; exact rfl; intro _) | ((with_reducible apply gdo_store); first | refine wo_store1 (h := ?_) | refine wo_storeA (h := ?_)) | ((with_reducible first | apply g_run); exact rfl; exact gG_) | ((with_reducible first | apply c_seq | apply c_block | apply c_region | apply c_nil | apply c_ret | apply c_exit | apply c_skip)) | ((with_reducible first | apply e_then | apply e_then_ret | apply e_then_exit | apply e_in | apply e_in_ret | apply e_in_same)))
  apply r_body; apply res1 Try.results36; exact rV_; intro w' hw
  refine ⟨?_, hw.below (by simp)⟩
  simp
end Go.Proofs.Ytkhaemjoekfhiaa
namespace Go.Proofs.Ytkhaemjoekfhiaa
open Go Go.Sx Go.RowKit
attribute [local irreducible] WL WC WQ WR WB WF QB St Exit.then Exit.inBlock Exit.noGoto bodyPost roundPost beginK YR RG BM Calls B AgainD MeetD
/-! ## lists -/
theorem same_yes {va vb : Value} {xs ys : List Int} (he : xs = ys) (w : World) (ha : SV w 1 encI va xs) (hb : SV w 1 encI vb ys) : Calls Try.prog 20 #[va, vb] w fun e w' => e = .returned (.bool true) ∧ Below w.heap.size w w' := by
  have := sameInts_calls w ha hb; rwa [B_true he] at this
theorem LL.two' {α : Type} {E : TypeId} {k : Nat} {enc : α → List Value} {x y : List α} {L : List Ent} {b b' : Nat} {w0 w : World} (henc : ∀ x, (enc x).length = k) (hw : Rep w0 w L) (h1 : At L b (Ce (x.flatMap enc) E)) (h2 : At L b' (Ce (y.flatMap enc) E)) (hx : x.length ≤ 1000000) (hy : y.length ≤ 1000000) : SL w k enc [(some ⟨b, 0, none⟩, x.length, x.length), (some ⟨b', 0, none⟩, y.length, y.length)] [x, y] := by
  refine ⟨rfl, fun i s xs hs hxs => ?_⟩
  match i with
  | 0 =>
    cases hs; cases hxs
    exact SV.lit x henc hw h1 rfl rfl (show x.length ≤ _ from by omega)
  | 1 =>
    cases hs; cases hxs
    exact SV.lit y henc hw h2 rfl rfl (show y.length ≤ _ from by omega)
  | i + 2 => simp at hs
set_option maxHeartbeats 4000000 in
theorem lists_yes {va vb : Value} {ss tt : List SD} {xss yss : List (List Int)} (he : xss = yss) (w : World) (ha : SV w 1 encS va ss) (hal : SL w 1 encI ss xss) (hb : SV w 1 encS vb tt) (hbl : SL w 1 encI tt yss) : Calls Try.prog 24 #[va, vb] w fun e w' => e = .returned (.bool true) ∧ Below w.heap.size w w' := by
  subst he
  obtain ⟨a1, c1, rfl, hc1, hop1⟩ := ha.open
  obtain ⟨a2, c2, rfl, hc2, hop2⟩ := hb.open
  have hl1 := hal.1
  have hl2 := hbl.1
  refine f_enter2 Try.func24 rfl Try.ntmps24 rfl (Rep.start w) ?_
  repeat' (first | ((with_reducible first | apply o_move | apply o_assign | apply o_not_d); exact rfl; exact rfl) | ((with_reducible first | apply o_lss | apply o_neq); exact rfl; exact rfl; exact rfl) | ((with_reducible apply o_len); infer_instance; exact rfl; exact rfl) | ((with_reducible first | apply c_seq | apply c_block | apply c_region | apply c_nil | apply c_ret | apply c_exit | apply c_skip)) | ((with_reducible apply c_cond_f); exact rfl; exact fF_) | ((with_reducible first | apply e_then | apply e_then_ret | apply e_then_exit | apply e_in | apply e_in_ret | apply e_in_same)))
  all_goals try (exfalso; omega)
  apply c_loop (σ := Nat) (Fs := fun i => [(5, .int .i64 i), (0, .slice a1 ss.length c1), (1, .slice a2 tt.length c2)])
    (Ls := fun i => []) (I := fun i => i ≤ ss.length) (μ := fun i => ss.length - i) (s0 := 0)
  · exact Nat.zero_le _
  · exact fS_
  · exact hS_
  intro i hi
  have hi : i ≤ ss.length := hi
  by_cases hlt : i < ss.length
  · obtain ⟨⟨sa, sn, sc⟩, hx⟩ : ∃ s, ss[i]? = some s := ⟨_, List.getElem?_eq_getElem hlt⟩
    obtain ⟨⟨ta, tn, tc⟩, hy⟩ : ∃ s, tt[i]? = some s := ⟨_, List.getElem?_eq_getElem (by omega)⟩
    obtain ⟨xs, hz⟩ : ∃ s, xss[i]? = some s := ⟨_, List.getElem?_eq_getElem (by omega)⟩
    obtain ⟨b, off, cc, e, fz, rfl, hk, hp⟩ := hop1 (by omega)
    obtain ⟨b', off', cc', e', fz', rfl, hk', hp'⟩ := hop2 (by omega)
    have q1 := hp.one hx rfl
    have q2 := hp'.one hy rfl
    have v1 := hal.2 i _ _ hx hz
    have v2 := hbl.2 i _ _ hy hz
    repeat' (first | ((first | ((with_reducible apply o_call_pure (f := 20)); exact rfl) | ((with_reducible apply q_call_pure (f := 20)); exact rfl; kernel_rfl; exact rfl; exact sJ_)); exact eV_; exact (fun w hw => same_yes rfl w (v1.keep hw (by exact aO_)) (v2.keep hw (by exact aO_)))) | ((with_reducible first | apply o_move | apply o_assign | apply o_not_d); exact rfl; exact rfl) | ((with_reducible first | apply o_lss | apply o_neq); exact rfl; exact rfl; exact rfl) | ((with_reducible apply o_add); exact rfl; exact rfl; exact rfl; (constructor <;> omega)) | ((with_reducible apply o_len); infer_instance; exact rfl; exact rfl) | ((with_reducible first | apply c_seq | apply c_block | apply c_region | apply c_nil | apply c_ret | apply c_exit | apply c_skip)) | ((with_reducible apply c_cond_t); exact rfl; exact tT_) | ((with_reducible apply c_cond_f); exact rfl; exact fF_) | ((with_reducible first | apply e_then | apply e_then_ret | apply e_then_exit | apply e_in | apply e_in_ret | apply e_in_same)) | ((with_reducible apply c_regionD0 (id := 6) []); kernel_rfl; kernel_rfl) | ((with_reducible apply q_nil); try simp only [ents, List.cons_append, List.nil_append]) | ((with_reducible first | apply q_move | apply q_assign); exact rfl; exact rfl) | ((with_reducible apply gdq_load); first | refine wq_load (h := ?_) | refine wq_loadAll (h := ?_) | refine wq_loadC (h := ?_) | refine wq_ldV (h := ?_) | refine wq_ldF (h := ?_)) | ((with_reducible apply q_not); exact rfl; exact rfl) | ((with_reducible apply q_idx); infer_instance; infer_instance; exact rfl; exact rfl; (first | exact rfl | omega); exact rfl; (first | assumption | omega | decide)))
    refine l_again (i + 1) (show i + 1 ≤ ss.length by omega) (show ss.length - (i + 1) < ss.length - i by omega) ?_ ?_
    · exact fS_
    · exact hS_
  repeat' (first | ((with_reducible first | apply o_move | apply o_assign | apply o_not_d); exact rfl; exact rfl) | ((with_reducible first | apply o_lss | apply o_neq); exact rfl; exact rfl; exact rfl) | ((with_reducible apply o_len); infer_instance; exact rfl; exact rfl) | ((with_reducible first | apply c_seq | apply c_block | apply c_region | apply c_nil | apply c_ret | apply c_exit | apply c_skip)) | ((with_reducible apply c_cond_f); exact rfl; exact fF_) | ((with_reducible first | apply e_then | apply e_then_ret | apply e_then_exit | apply e_in | apply e_in_ret | apply e_in_same)))
  all_goals try (exfalso; omega)
  apply r_body; apply res1 Try.results24; exact rV_; intro w' hw
  exact ⟨rfl, hw.below (by simp)⟩
/-! ## runs, taken apart -/
end Go.Proofs.Ytkhaemjoekfhiaa
namespace Go.Sx
theorem SV.ptr {α : Type} {w : World} {k m c : Nat} {a : Option Addr} {enc : α → List Value} {xs : List α} {x : α} {i : Nat} (h : SV w k enc (.slice a m c) xs) (hx : xs[i]? = some x) : ∃ b off, a = some ⟨b, off, none⟩ := by
  obtain ⟨_, _, e1, _, hop⟩ := h.open
  cases e1
  obtain ⟨b, off, _, _, _, e2, _⟩ := hop (by have := (List.getElem?_eq_some_iff.1 hx).1; omega)
  exact ⟨b, off, e2⟩
theorem SV.sd {α : Type} {w : World} {k : Nat} {d : SD} {enc : α → List Value} {xs : List α} (h : SV w k enc (sdV d) xs) : ∃ a c, d = (a, xs.length, c) := by
  obtain ⟨a, n, c⟩ := d
  obtain ⟨_, _, e1, _, _⟩ := h.open
  cases e1
  exact ⟨a, c, rfl⟩
end Go.Sx
namespace Go.Proofs.Ytkhaemjoekfhiaa
open Go Go.Sx Go.RowKit
theorem RunsV.at {w : World} {a : Option Addr} {n c : Nat} {ds : List RD} {runs : List Plt.Run} {i : Nat} {r : Plt.Run} (h : RunsV w (.slice a n c) ds runs) (hr : runs[i]? = some r) : ∃ b off x1 k1 x2 k2 x3 n3 k3 x4 n4 k4 x5 k5 x6 k6 x7 n7 k7, a = some ⟨b, off, none⟩ ∧
    ds[i]? = some ⟨r.pass, r.start, r.fin, (x1, r.items.length, k1), (x2, r.slices.length, k2), (x3, n3, k3), (x4, n4, k4), (x5, r.res.over.length, k5), (x6, r.res.rej.length, k6), (x7, n7, k7)⟩ ∧ n3 = r.res.stackers.length ∧
    ∀ (j : Nat) (u : Value), ([.int .i64 r.pass, .int .i64 r.start, .int .i64 r.fin, .slice x1 r.items.length k1, .slice x2 r.slices.length k2, .slice x3 n3 k3, .slice x4 n4 k4, .slice x5 r.res.over.length k5, .slice x6 r.res.rej.length k6, .slice x7 n7 k7] : List Value)[j]? = some u →
      (encRD ⟨r.pass, r.start, r.fin, (x1, r.items.length, k1), (x2, r.slices.length, k2), (x3, n3, k3), (x4, n4, k4), (x5, r.res.over.length, k5), (x6, r.res.rej.length, k6), (x7, n7, k7)⟩)[j]? = some u := by
  obtain ⟨hs, hl, hh⟩ := h
  obtain ⟨d, hd⟩ : ∃ d, ds[i]? = some d := ⟨_, List.getElem?_eq_getElem (by have := (List.getElem?_eq_some_iff.1 hr).1; omega)⟩
  obtain ⟨b, off, rfl⟩ := hs.ptr hd
  have hv := hh i d r hd hr
  obtain ⟨x1, k1, e1⟩ := hv.items.sd
  obtain ⟨x2, k2, e2⟩ := hv.slices.sd
  rw [Plt.slc3_len] at e2
  obtain ⟨ss, h3, h4⟩ := hv.stk
  obtain ⟨x3, k3, e3⟩ := h3.sd
  rw [h4.1] at e3
  obtain ⟨x5, k5, e5⟩ := hv.ov.sd
  obtain ⟨x6, k6, e6⟩ := hv.rj.sd
  obtain ⟨p, s, f, i1, i2, i3, ⟨x4, n4, k4⟩, i5, i6, ⟨x7, n7, k7⟩⟩ := d
  refine ⟨b, off, x1, k1, x2, k2, x3, _, k3, x4, n4, k4, x5, k5, x6, k6, x7, n7, k7, rfl, ?_, rfl, fun _ _ h => h⟩
  rw [hd]
  obtain rfl : p = r.pass := hv.pass
  obtain rfl : s = r.start := hv.start
  obtain rfl : f = r.fin := hv.fin
  dsimp only at e1 e2 e3 e5 e6
  rw [e1, e2, e3, e5, e6]
theorem RunV.stk' {w : World} {r : Plt.Run} {d : RD} {x3 : Option Addr} {n3 k3 : Nat} (h : RunV w d r) (hd : d.stk = (x3, n3, k3)) : ∃ ss, SV w 1 encS (.slice x3 n3 k3) ss ∧ SL w 1 encI ss r.res.stackers := by
  obtain ⟨ss, h1, h2⟩ := h.stk
  rw [hd] at h1
  exact ⟨ss, h1, h2⟩
theorem lists_is {va vb : Value} {tt : List SD} {xss yss : List (List Int)} (he : xss = yss) (w : World) (ha : ∃ ss, SV w 1 encS va ss ∧ SL w 1 encI ss xss) (hb : SV w 1 encS vb tt) (hbl : SL w 1 encI tt yss) : Calls Try.prog 24 #[va, vb] w fun e w' => e = .returned (.bool true) ∧ Below w.heap.size w w' := by
  obtain ⟨ss, h1, h2⟩ := ha
  exact lists_yes he w h1 h2 hb hbl
end Go.Proofs.Ytkhaemjoekfhiaa
namespace Go.Proofs.Ytkhaemjoekfhiaa
open Go Go.Sx Go.RowKit
theorem and1_64 (x : Int) (h : 0 ≤ x ∧ x ≤ 255) : IntKind.i64.wrap ((BitVec.ofInt IntKind.i64.bits x &&& BitVec.ofInt IntKind.i64.bits 1).toNat) = x % 2 := by
  obtain ⟨k, rfl⟩ := Int.eq_ofNat_of_zero_le h.1
  have hk : k < 256 := by omega
  have e : (BitVec.ofInt IntKind.i64.bits (k : Int) &&& BitVec.ofInt IntKind.i64.bits 1).toNat = k % 2 := by
    rw [BitVec.toNat_and]
    have e1 : (BitVec.ofInt IntKind.i64.bits (k : Int)).toNat = k := by
      show (BitVec.ofInt 64 (k : Int)).toNat = k
      simp; omega
    have e2 : (BitVec.ofInt IntKind.i64.bits 1).toNat = 1 := rfl
    rw [e1, e2, Nat.and_one_is_mod]
  rw [e, wrap_in (by omega) (by omega)]; omega
section
variable {P : Program} {n : Nat} {D : List Deferred} {w0 : World} {F : List (Nat × Value)} {L : List Ent} {J J1 : Made} {Φ : Specs} {X : Act → World → Prop} {kq : Nat} {ops : Array Oper} {Q : Exit → Act → World → Prop} {r : Option Nat}
variable {d : Tmp} {ty : TypeId} {pos : String} {af : Array Edge} {rest : List Oper}
variable {x y : Operand} {m l v : Int} {t u : TypeId} (hx : ev F x = some (.int .i64 m)) (hy : ev F y = some (.int .i64 l))
include hx hy
theorem o_addE (e : m + l = v) (hr : -9223372036854775808 ≤ v ∧ v ≤ 9223372036854775807) (hd : Nat.ble (d + 1) n = true) (h : St n D w0 ((d, .int .i64 v) :: F) L (WL r P ops Q rest)) : St n D w0 F L (WL r P ops Q (⟨some d, .binOp .add t x y u, ty, pos, af, none⟩ :: rest)) := by subst e; exact o_add hx hy hd hr h
theorem o_mulE (e : m * l = v) (hr : -9223372036854775808 ≤ v ∧ v ≤ 9223372036854775807) (hd : Nat.ble (d + 1) n = true) (h : St n D w0 ((d, .int .i64 v) :: F) L (WL r P ops Q rest)) : St n D w0 F L (WL r P ops Q (⟨some d, .binOp .mul t x y u, ty, pos, af, none⟩ :: rest)) := by subst e; exact o_mul hx hy hd hr h
theorem o_remE (e : m % l = v) (hr : 0 ≤ m ∧ 0 < l) (hd : Nat.ble (d + 1) n = true) (h : St n D w0 ((d, .int .i64 v) :: F) L (WL r P ops Q rest)) : St n D w0 F L (WL r P ops Q (⟨some d, .binOp .rem t x y u, ty, pos, af, none⟩ :: rest)) := by subst e; exact o_rem hx hy hd hr h
theorem q_addE (e : m + l = v) (hr : -9223372036854775808 ≤ v ∧ v ≤ 9223372036854775807) (hd : Nat.ble (d + 1) n = true) (h : St n D w0 ((d, .int .i64 v) :: F) L (WQ P ops w0 L Φ X (kq + 1) J rest)) : St n D w0 F L (WQ P ops w0 L Φ X kq J (⟨some d, .binOp .add t x y u, ty, pos, af, none⟩ :: rest)) := by subst e; exact q_add hx hy hd hr h
theorem q_remE (e : m % l = v) (hr : 0 ≤ m ∧ 0 < l) (hd : Nat.ble (d + 1) n = true) (h : St n D w0 ((d, .int .i64 v) :: F) L (WQ P ops w0 L Φ X (kq + 1) J rest)) : St n D w0 F L (WQ P ops w0 L Φ X kq J (⟨some d, .binOp .rem t x y u, ty, pos, af, none⟩ :: rest)) := by subst e; exact q_rem hx hy hd hr h
theorem o_shrE (e : m / 2 ^ l.toNat = v) (hr : 0 ≤ m ∧ 0 ≤ l ∧ l < 64) (hd : Nat.ble (d + 1) n = true) (h : St n D w0 ((d, .int .i64 v) :: F) L (WL r P ops Q rest)) : St n D w0 F L (WL r P ops Q (⟨some d, .binOp .shr t x y u, ty, pos, af, none⟩ :: rest)) :=
  o_shr hx hy hd hr.2.1 (by
    have e1 : min l.toNat IntKind.i64.bits = l.toNat := by show min l.toNat 64 = l.toNat; omega
    have e2 : m.fdiv (2 ^ l.toNat) = m / 2 ^ l.toNat := Int.fdiv_eq_ediv_of_nonneg _ (Int.le_of_lt (Int.pow_pos (by decide)))
    rw [e1, e2, e]; exact h)
end
section
variable {P : Program} {n : Nat} {D : List Deferred} {w0 : World} {F : List (Nat × Value)} {L : List Ent} {J J1 : Made} {Φ : Specs} {X : Act → World → Prop} {kq : Nat} {ops : Array Oper} {Q : Exit → Act → World → Prop} {r : Option Nat}
variable {d : Tmp} {ty : TypeId} {pos : String} {af : Array Edge} {rest : List Oper}
theorem o_andE {x y : Operand} {m v : Int} {t u : TypeId} (hx : ev F x = some (.int .i64 m)) (hy : ev F y = some (.int .i64 1)) (e : m % 2 = v) (hr : 0 ≤ m ∧ m ≤ 255) (hd : Nat.ble (d + 1) n = true) (h : St n D w0 ((d, .int .i64 v) :: F) L (WL r P ops Q rest)) : St n D w0 F L (WL r P ops Q (⟨some d, .binOp .and t x y u, ty, pos, af, none⟩ :: rest)) :=
  o_and_w hx hy hd (by rw [and1_64 m hr, e]; exact h)
theorem o_conv8 {x : Operand} {m : Int} {s t : TypeId} {ds : TypeDesc} (hS : TU P s ds) (hT : TU P t (.int .i64)) (hx : ev F x = some (.int .u8 m)) (hr : 0 ≤ m ∧ m ≤ 255) (hd : Nat.ble (d + 1) n = true)
    (h : St n D w0 ((d, .int .i64 m) :: F) L (WL r P ops Q rest)) : St n D w0 F L (WL r P ops Q (⟨some d, .convert s t x, ty, pos, af, none⟩ :: rest)) :=
  o_conv (ds := ds) hx hd (by rw [wrap_in (by omega) (by omega)]; exact h)
theorem q_conv8 {x : Operand} {m : Int} {s t : TypeId} {ds : TypeDesc} (hS : TU P s ds) (hT : TU P t (.int .i64)) (hx : ev F x = some (.int .u8 m)) (hΦ : Φ kq = none) (hJ : SubJ ((anc ops).getD kq 0) J1 J) (hr : 0 ≤ m ∧ m ≤ 255) (hd : Nat.ble (d + 1) n = true)
    (h : St n D w0 ((d, .int .i64 m) :: F) L (WQ P ops w0 L Φ X (kq + 1) J rest)) : St n D w0 F L (WQ P ops w0 L Φ X kq J (⟨some d, .convert s t x, ty, pos, af, none⟩ :: rest)) :=
  q_conv (ds := ds) hx hΦ hJ hd (by rw [wrap_in (by omega) (by omega)]; exact h)
end
end Go.Proofs.Ytkhaemjoekfhiaa
namespace Go.Sx.Plt
/-- The minutes that some shifts have from a time on. -/
def haveF (t : Int) : List Sh → Int
  | [] => 0
  | s :: r => max 0 (s.t - max s.f t) + haveF t r
/-- A number of a list, again from the beginning. -/
def nb (l : List UInt8) (i : Nat) : Int := if l.length = 0 then 0 else ((l.getD (i % l.length) 0).toNat : Int)
theorem nb_bd (l : List UInt8) (i : Nat) : 0 ≤ nb l i ∧ nb l i ≤ 255 := by
  unfold nb
  split
  · omega
  · have := (l.getD (i % l.length) 0).toNat_lt
    omega
end Go.Sx.Plt
namespace Go.Proofs.Ytkhaemjoekfhiaa
open Go Go.Sx Go.RowKit
attribute [local irreducible] WL WC WQ WR WB WF QB St Exit.then Exit.inBlock Exit.noGoto bodyPost roundPost beginK YR RG BM Calls B AgainD MeetD
/-! ## the laws' small words -/
def encB (x : UInt8) : List Value := [.int .u8 (x.toNat : Int)]
theorem encB_len : ∀ x, (encB x).length = 1 := fun _ => rfl
theorem number_calls {v : Value} {l : List UInt8} (i : Nat) (hi : i ≤ 1000000) (w : World) (h : SV w 1 encB v l) : Calls Try.prog 23 #[v, .int .i64 i] w fun e w' => e = .returned (.int .i64 (Plt.nb l i)) ∧ Below w.heap.size w w' := by
  obtain ⟨a0, c0, rfl, hc, hop⟩ := h.open
  unfold Plt.nb
  by_cases h0 : l.length = 0
  · rw [if_pos h0]
    refine f_enter2 Try.func23 rfl Try.ntmps23 rfl (Rep.start w) ?_
    repeat' (first | ((with_reducible apply c_cond_t); exact rfl; exact decide_eq_true (by omega)) | ((with_reducible first | apply o_move | apply o_assign | apply o_conv); exact rfl; exact rfl) | ((with_reducible apply o_eql); exact rfl; exact rfl; exact rfl) | ((with_reducible apply o_len); infer_instance; exact rfl; exact rfl) | ((with_reducible first | apply c_seq | apply c_block | apply c_region | apply c_nil | apply c_ret | apply c_exit | apply c_skip)) | ((with_reducible first | apply e_then | apply e_then_ret | apply e_then_exit | apply e_in | apply e_in_ret | apply e_in_same)))
    apply r_body; apply res1 Try.results23; exact rV_; intro w' hw
    exact ⟨rfl, hw.below (by simp)⟩
  · rw [if_neg h0]
    obtain ⟨j, hj⟩ : ∃ j, i % l.length = j := ⟨_, rfl⟩
    have hlt : j < l.length := by rw [← hj]; exact Nat.mod_lt _ (by omega)
    rw [hj]
    have hji : (i : Int) % (l.length : Int) = (j : Int) := by omega
    obtain ⟨y, hx⟩ : ∃ y, l[j]? = some y := ⟨_, List.getElem?_eq_getElem hlt⟩
    have hy : l.getD j 0 = y := by simp [List.getD_eq_getElem?_getD, hx]
    rw [hy]
    obtain ⟨b, off, cc, e, fz, rfl, hk, hp⟩ := hop (by omega)
    have g1 : cc[off + j * 1]? = some (.int .u8 (y.toNat : Int)) := hp.one hx rfl
    have := y.toNat_lt
    refine f_enter2 Try.func23 rfl Try.ntmps23 rfl (Rep.start w) ?_
    repeat' (first | ((with_reducible apply c_cond_f); exact rfl; exact decide_eq_false (by omega)) | ((with_reducible apply o_remE (v := (j : Int))); exact rfl; exact rfl; exact hji; omega; exact rfl) | ((with_reducible apply o_conv8); infer_instance; infer_instance; exact rfl; (constructor <;> omega); exact rfl) | ((with_reducible first | apply o_move | apply o_assign | apply o_conv); exact rfl; exact rfl) | ((with_reducible apply gdo_load); first | refine wo_load (h := ?_) | refine wo_loadAll (h := ?_) | refine wo_loadC (h := ?_) | refine wo_ldV (h := ?_) | refine wo_ldF (h := ?_)) | ((with_reducible apply o_eql); exact rfl; exact rfl; exact rfl) | ((with_reducible apply o_len); infer_instance; exact rfl; exact rfl) | ((with_reducible apply o_idx); infer_instance; infer_instance; exact rfl; exact rfl; (first | exact rfl | omega); exact rfl; (first | assumption | omega | decide)) | ((with_reducible first | apply c_seq | apply c_block | apply c_region | apply c_nil | apply c_ret | apply c_exit | apply c_skip)) | ((with_reducible first | apply e_then | apply e_then_ret | apply e_then_exit | apply e_in | apply e_in_ret | apply e_in_same)))
    apply r_body; apply res1 Try.results23; exact rV_; intro w' hw
    exact ⟨rfl, hw.below (by simp)⟩
theorem number_is {v : Value} {l : List UInt8} {i : Nat} {n k : Int} (hn : n = (i : Int)) (hi : i ≤ 1000000) (hk : Plt.nb l i = k) (w : World) (h : SV w 1 encB v l) : Calls Try.prog 23 #[v, .int .i64 n] w fun e w' => e = .returned (.int .i64 k) ∧ Below w.heap.size w w' := by
  subst hn hk; exact number_calls i hi w h
end Go.Proofs.Ytkhaemjoekfhiaa
namespace Go.Sx.Plt
structure Sk where
  ms : List UInt8
  shs : List UInt8
  its : List UInt8
  ps : List UInt8
def bCaps (M : List UInt8) (i n : Nat) : List Int := (List.range n).map fun k => 1 + nb M (i + k + 4) % 12
theorem bCaps_succ (M : List UInt8) (i n : Nat) : bCaps M i (n + 1) = bCaps M i n ++ [1 + nb M (i + n + 4) % 12] := by simp [bCaps, List.range_succ]
theorem bCaps_len (M : List UInt8) (i n : Nat) : (bCaps M i n).length = n := by simp [bCaps]
def bT (S : List UInt8) (i : Nat) : Nat → Int
  | 0 => nb S i % 7
  | k + 1 => bT S i k + 1 + nb S (i + k + 2) % 12 + nb S (i + k + 3) % 5
theorem bT_bd (S : List UInt8) (i : Nat) : ∀ k, 0 ≤ bT S i k ∧ bT S i k ≤ 6 + 16 * k
  | 0 => by have := nb_bd S i; rw [bT]; omega
  | k + 1 => by have := bT_bd S i k; have := nb_bd S (i + k + 2); have := nb_bd S (i + k + 3); rw [bT]; omega
def bSh (S : List UInt8) (i k : Nat) : Sh := ⟨bT S i k, bT S i k + 1 + nb S (i + k + 2) % 12⟩
def bShs (S : List UInt8) (i n : Nat) : List Sh := (List.range n).map (bSh S i)
theorem bShs_succ (S : List UInt8) (i n : Nat) : bShs S i (n + 1) = bShs S i n ++ [bSh S i n] := by simp [bShs, List.range_succ]
theorem bShs_len (S : List UInt8) (i n : Nat) : (bShs S i n).length = n := by simp [bShs]
def bMach (M S : List UInt8) (i : Nat) : Mach := ⟨5 + i, nb M (i + 1) % 4, 1 + nb M (i + 2) % 5, bCaps M i (1 + nb M (i + 3) % 4).toNat, bShs S i (2 + nb S (i + 1) % 4).toNat⟩
def bMsN (M S : List UInt8) (n : Nat) : List Mach := (List.range n).map (bMach M S)
theorem bMsN_succ (M S : List UInt8) (n : Nat) : bMsN M S (n + 1) = bMsN M S n ++ [bMach M S n] := by simp [bMsN, List.range_succ]
theorem bMsN_len (M S : List UInt8) (n : Nat) : (bMsN M S n).length = n := by simp [bMsN]
def bMs (x : Sk) : List Mach := bMsN x.ms x.shs (1 + nb x.ms 0 % 3).toNat
def bItem (I : List UInt8) (i : Nat) : Item := ⟨100 - 2 * i, ((I.getD i 0).toNat : Int) % 9, 1 + ((I.getD i 0).toNat : Int) / 9 % 3⟩
def bIsN (I : List UInt8) (n : Nat) : List Item := (List.range n).map (bItem I)
theorem bIsN_succ (I : List UInt8) (n : Nat) : bIsN I (n + 1) = bIsN I n ++ [bItem I n] := by simp [bIsN, List.range_succ]
theorem bIsN_len (I : List UInt8) (n : Nat) : (bIsN I n).length = n := by simp [bIsN]
def bIs (x : Sk) : List Item := bIsN x.its (min x.its.length 40)
/-- What a pass takes of what is left, and what it leaves. -/
def bPick (n : Nat) : Nat → List (Int × Int) → List (Int × Int) → List (Int × Int) → List (Int × Int) × List (Int × Int)
  | _, a, b, [] => (a, b)
  | k, a, b, s :: r => if ((n : Int) / 2 ^ (k % 5) % 2 = 1 ∨ k = 0) ∧ a.length < 5 then bPick n (k + 1) (a ++ [s]) b r else bPick n (k + 1) a (b ++ [s]) r
def bTab (n c m : Nat) : List Row := ((List.range m).filter fun s => s ≠ n % 16).map fun (s : Nat) => ⟨s, (((n + s) % c : Nat) : Int)⟩
theorem bTab_succ (n c m : Nat) : bTab n c (m + 1) = bTab n c m ++ if m ≠ n % 16 then [⟨m, (((n + m) % c : Nat) : Int)⟩] else [] := by
  unfold bTab
  rw [List.range_succ, List.filter_append, List.map_append]
  congr 1
  by_cases h : m = n % 16
  · simp [h]
  · simp [h]
def bUn (its : List Item) (n i m : Nat) : List Int := ((List.range m).filter fun k => (k * n + i) % 11 = 10).map fun k => (its.getD k ⟨0, 0, 0⟩).id
theorem bUn_succ (its : List Item) (n i m : Nat) : bUn its n i (m + 1) = bUn its n i m ++ if (m * n + i) % 11 = 10 then [(its.getD m ⟨0, 0, 0⟩).id] else [] := by
  unfold bUn
  rw [List.range_succ, List.filter_append, List.map_append]
  congr 1
  by_cases h : (m * n + i) % 11 = 10
  · simp [h]
  · simp [h]
def bSrcs (id : Int) (c : Nat) : List (Int × Int) := (List.range c).map fun (k : Nat) => (id, (k : Int))
theorem bSrcs_succ (id : Int) (c : Nat) : bSrcs id (c + 1) = bSrcs id c ++ [(id, (c : Int))] := by simp [bSrcs, List.range_succ]
def bMd (ms : List Mach) (n : Nat) : Mach := ms.getD (n % ms.length) ⟨0, 0, 0, [], []⟩
def bLeft (i : Nat) (left : List (Int × Int)) : List (Int × Int) := if i < 3 then left ++ [(0, (i : Int) + 1)] else left
def bPass (ms : List Mach) (its : List Item) (n i : Nat) (left : List (Int × Int)) : Pass :=
  ⟨20 - i, (bMd ms n).id, (n : Int) / 8 % 16, (bPick n 0 [] [] (bLeft i left)).1, bTab n (bMd ms n).caps.length 8, bUn its n i its.length⟩
def bNext (ms : List Mach) (n i : Nat) (left : List (Int × Int)) : List (Int × Int) := (bPick n 0 [] [] (bLeft i left)).2 ++ bSrcs (20 - i) (bMd ms n).caps.length
def bAt (ms : List Mach) (its : List Item) (P : List UInt8) : Nat → List (Int × Int) × List Pass
  | 0 => ([], [])
  | i + 1 => (bNext ms (P.getD i 0).toNat i (bAt ms its P i).1, (bAt ms its P i).2 ++ [bPass ms its (P.getD i 0).toNat i (bAt ms its P i).1])
def built (x : Sk) : Plant := ⟨bMs x, bIs x, (bAt (bMs x) (bIs x) x.ps (min x.ps.length 6)).2⟩
theorem bAt_len (ms : List Mach) (its : List Item) (P : List UInt8) : ∀ i, (bAt ms its P i).2.length = i
  | 0 => rfl
  | i + 1 => by rw [bAt, List.length_append, bAt_len ms its P i]; rfl
theorem bPick_len (n : Nat) : ∀ (l : List (Int × Int)) (k : Nat) (a b : List (Int × Int)), (bPick n k a b l).1.length + (bPick n k a b l).2.length = a.length + b.length + l.length
  | [], k, a, b => by simp [bPick]
  | s :: r, k, a, b => by
    rw [bPick]
    split
    · rw [bPick_len n r]; simp; omega
    · rw [bPick_len n r]; simp; omega
theorem bPick_some {n k : Nat} {a b l : List (Int × Int)} {s : Int × Int} (h : l[k]? = some s) : bPick n k a b (l.drop k) = if ((n : Int) / 2 ^ (k % 5) % 2 = 1 ∨ k = 0) ∧ a.length < 5 then bPick n (k + 1) (a ++ [s]) b (l.drop (k + 1)) else bPick n (k + 1) a (b ++ [s]) (l.drop (k + 1)) := by
  rw [Go.Proofs.Ytkhaemjoekfhiaa.drop_at h, bPick]
theorem bMs_caps {x : Sk} {m : Mach} (h : m ∈ bMs x) : 1 ≤ m.caps.length ∧ m.caps.length ≤ 4 := by
  obtain ⟨j, _, rfl⟩ := List.mem_map.1 h
  have := nb_bd x.ms (j + 3)
  unfold bMach
  dsimp only
  rw [bCaps_len]
  omega
end Go.Sx.Plt
namespace Go.Proofs.Ytkhaemjoekfhiaa
open Go Go.Sx Go.RowKit
theorem MachV.eqs {w : World} {d : MD} {m : Plt.Mach} (h : MachV w d m) : ∃ x1 k1 x2 k2, d = ⟨m.id, m.sweeps, m.rate, (x1, m.caps.length, k1), (x2, m.shifts.length, k2)⟩ := by
  obtain ⟨x1, k1, e1⟩ := h.caps.sd
  obtain ⟨x2, k2, e2⟩ := h.shifts.sd
  refine ⟨x1, k1, x2, k2, ?_⟩
  obtain ⟨a, b, c, i1, i2⟩ := d
  obtain rfl : a = m.id := h.id
  obtain rfl : b = m.sweeps := h.sweeps
  obtain rfl : c = m.rate := h.rate
  dsimp only at e1 e2
  rw [e1, e2]
end Go.Proofs.Ytkhaemjoekfhiaa
namespace Go.Proofs.Ytkhaemjoekfhiaa
open Go Go.Sx Go.RowKit
attribute [local irreducible] WL WC WQ WR WB WF QB St Exit.then Exit.inBlock Exit.noGoto bodyPost roundPost beginK YR RG BM Calls B AgainD MeetD
/-! ## built -/
/-- What built leaves. -/
def builtφ (p : Plt.Plant) (v : Value) (N : List Ent) : Prop := ∃ am cm ai ci ap cp ds ys NM NI NP NX, v = .agg #[.slice am p.ms.length cm, .slice ai p.items.length ci, .slice ap p.passes.length cp] ∧
  (OW 61 5 encMD (.slice am p.ms.length cm) ds NM ∧ OW 38 3 encItem (.slice ai p.items.length ci) p.items NI ∧ OW 58 6 encPD (.slice ap p.passes.length cp) ys NP) ∧ (N = NM ++ (NI ++ (NP ++ NX)) ∧ ∀ x ∈ NX, x.own = true) ∧ (ds.length = p.ms.length ∧ ys.length = p.passes.length) ∧
  Shw NX (fun w => ∀ (i : Nat) (d : MD) (m : Plt.Mach), ds[i]? = some d → p.ms[i]? = some m → MachV w d m) ∧ Shw NX (fun w => ∀ (i : Nat) (d : PD) (y : Plt.Pass), ys[i]? = some d → p.passes[i]? = some y → PassV w d y)
set_option maxHeartbeats 16000000 in
set_option maxRecDepth 100000 in
theorem built_calls {v0 v1 v2 v3 : Value} {x : Plt.Sk} (w : World) (h0 : SV w 1 encB v0 x.ms) (h1 : SV w 1 encB v1 x.shs) (h2 : SV w 1 encB v2 x.its) (h3 : SV w 1 encB v3 x.ps) :
    Calls Try.prog 10 #[.agg #[v0, v1, v2, v3]] w fun e w' => ∃ v N, e = .returned v ∧ builtφ (Plt.built x) v N ∧ Rep w w' N ∧ ∀ x ∈ N, x.own = true := by
  obtain ⟨a0, c0, rfl, hc0, hop0⟩ := h0.open
  obtain ⟨a1, c1, rfl, hc1, hop1⟩ := h1.open
  obtain ⟨a2, c2, rfl, hc2, hop2⟩ := h2.open
  obtain ⟨a3, c3, rfl, hc3, hop3⟩ := h3.open
  have nb8 := fun (l : List UInt8) (i : Nat) => Plt.nb_bd l i
  have nb0 := nb8 x.ms 0
  refine f_enter1 Try.func10 rfl Try.ntmps10 rfl (Rep.start w) ?_
  repeat' (first | ((with_reducible first | apply o_move | apply o_assign | apply o_faddr0 | apply o_conv); exact rfl; exact rfl) | ((with_reducible apply o_alloc); exact rfl; intro _) | ((with_reducible apply o_box); exact rfl; exact rfl; exact rfl; intro _) | ((with_reducible first | apply c_seq | apply c_block | apply c_region | apply c_nil | apply c_ret | apply c_exit | apply c_skip)) | ((with_reducible first | apply e_then | apply e_then_ret | apply e_then_exit | apply e_in | apply e_in_ret | apply e_in_same)))
  rename_i b1 b2 b3
  apply c_loop (σ := Nat × (Option Addr × Nat) × List MD × List Ent × List Ent) (Fs := fun t => [(4, .int .i64 t.1), (3, ptr b3), (2, ptr b2), (1, ptr b1)])
    (Ls := fun t => ⟨b3, Ce [.slice t.2.1.1 t.2.2.1.length t.2.1.2, .slice none 0 0, .slice none 0 0] 29, true⟩ :: ⟨b2, Ce [.slice none 0 0, .slice none 0 0, .slice none 0 0] 29, true⟩ :: ⟨b1, Ce [.slice a0 x.ms.length c0, .slice a1 x.shs.length c1, .slice a2 x.its.length c2, .slice a3 x.ps.length c3] 24, true⟩ :: (t.2.2.2.1 ++ (t.2.2.2.2 ++ [])))
    (I := fun t => t.1 ≤ (1 + Plt.nb x.ms 0 % 3).toNat ∧ t.2.2.1.length = t.1 ∧ OW 61 5 encMD (.slice t.2.1.1 t.2.2.1.length t.2.1.2) t.2.2.1 t.2.2.2.1 ∧ (∀ e ∈ t.2.2.2.2, e.own = true) ∧ Shw t.2.2.2.2 (fun w => ∀ (i : Nat) (d : MD) (m : Plt.Mach), t.2.2.1[i]? = some d → (Plt.bMsN x.ms x.shs t.1)[i]? = some m → MachV w d m))
    (μ := fun t => (1 + Plt.nb x.ms 0 % 3).toNat - t.1) (s0 := (0, (none, 0), [], [], []))
  · exact ⟨Nat.zero_le _, rfl, OW.nil, by simp, fun _ _ _ _ _ _ i d m hd _ => by simp at hd⟩
  · exact fS_
  · exact hS_
  rintro ⟨i, ⟨am, cm⟩, ds, NM, NX⟩ ⟨hi, hdl, hOM, oX, hMX⟩
  dsimp only at hi hdl hOM oX hMX ⊢
  have oM := hOM.own
  by_cases hlt : i < (1 + Plt.nb x.ms 0 % 3).toNat
  · have nb1 := nb8 x.ms (i + 1)
    have nb2 := nb8 x.ms (i + 2)
    have nb3 := nb8 x.ms (i + 3)
    have nbs := nb8 x.shs i
    have nbs1 := nb8 x.shs (i + 1)
    repeat' (first | ((with_reducible apply c_cond_t); exact rfl; exact decide_eq_true (by omega)) | ((first | ((with_reducible apply o_call_pure (f := 23)); exact rfl) | ((with_reducible apply q_call_pure (f := 23)); exact rfl; kernel_rfl; exact rfl; exact sJ_)); exact eV_; exact (fun w hw => number_is (i := 0) (by omega) (by omega) rfl w (h0.keep hw (by exact aO_)))) | ((first | ((with_reducible apply o_call_pure (f := 23)); exact rfl) | ((with_reducible apply q_call_pure (f := 23)); exact rfl; kernel_rfl; exact rfl; exact sJ_)); exact eV_; exact (fun w hw => number_is (i := i + 1) (by omega) (by omega) rfl w (h0.keep hw (by exact aO_)))) | ((first | ((with_reducible apply o_call_pure (f := 23)); exact rfl) | ((with_reducible apply q_call_pure (f := 23)); exact rfl; kernel_rfl; exact rfl; exact sJ_)); exact eV_; exact (fun w hw => number_is (i := i + 2) (by omega) (by omega) rfl w (h0.keep hw (by exact aO_)))) | ((with_reducible first | apply o_move | apply o_assign | apply o_faddr0 | apply o_conv); exact rfl; exact rfl) | ((with_reducible apply gdo_load); first | refine wo_load (h := ?_) | refine wo_loadAll (h := ?_) | refine wo_loadC (h := ?_) | refine wo_ldV (h := ?_) | refine wo_ldF (h := ?_)) | ((with_reducible first | apply o_lss | apply o_eql | apply o_neq); exact rfl; exact rfl; exact rfl) | ((with_reducible first | apply o_add | apply o_sub | apply o_mul); exact rfl; exact rfl; exact rfl; (constructor <;> omega)) | ((with_reducible first | apply o_quo | apply o_rem); exact rfl; exact rfl; exact rfl; omega) | ((with_reducible first | apply c_seq | apply c_block | apply c_region | apply c_nil | apply c_ret | apply c_exit | apply c_skip)) | ((with_reducible first | apply e_then | apply e_then_ret | apply e_then_exit | apply e_in | apply e_in_ret | apply e_in_same)) | ((with_reducible apply c_regionD0 (id := 5) []); kernel_rfl; kernel_rfl) | ((with_reducible apply q_nil); try simp only [ents, List.cons_append, List.nil_append]) | ((with_reducible first | apply q_move | apply q_assign | apply q_faddr0); exact rfl; exact rfl) | ((with_reducible apply gdq_load); first | refine wq_load (h := ?_) | refine wq_loadAll (h := ?_) | refine wq_loadC (h := ?_) | refine wq_ldV (h := ?_) | refine wq_ldF (h := ?_)) | ((with_reducible first | apply q_add | apply q_sub | apply q_mul); exact rfl; exact rfl; exact rfl; (constructor <;> omega)) | ((with_reducible first | apply q_quo | apply q_rem); exact rfl; exact rfl; exact rfl; omega) | ((with_reducible apply gdq_build); first | refine wq_build (h := ?_)) | ((with_reducible apply gdq_store); first | refine wq_storeAE (h := ?_)) | ((with_reducible apply q_alloc); exact rfl; intro _))
    rename_i b5
    obtain ⟨nc, hnc⟩ : ∃ nc, (1 + Plt.nb x.ms (i + 3) % 4).toNat = nc := ⟨_, rfl⟩
    obtain ⟨ns, hns⟩ : ∃ ns, (2 + Plt.nb x.shs (i + 1) % 4).toNat = ns := ⟨_, rfl⟩
    obtain ⟨sw, hsw⟩ : ∃ sw, Plt.nb x.ms (i + 1) % 4 = sw := ⟨_, rfl⟩
    obtain ⟨ra, hra⟩ : ∃ ra, 1 + Plt.nb x.ms (i + 2) % 5 = ra := ⟨_, rfl⟩
    have hbm : Plt.bMach x.ms x.shs i = ⟨5 + i, sw, ra, Plt.bCaps x.ms i nc, Plt.bShs x.shs i ns⟩ := by unfold Plt.bMach; rw [hnc, hns, hsw, hra]
    rw [hsw, hra]
    apply c_loop (σ := Nat × (Option Addr × Nat) × List Ent) (Fs := fun t => [(6, .int .i64 t.1), (5, ptr b5), (4, .int .i64 i), (3, ptr b3), (2, ptr b2), (1, ptr b1)])
      (Ls := fun t => ⟨b5, Ce [.int .i64 (5 + i), .int .i64 sw, .int .i64 ra, .slice t.2.1.1 (Plt.bCaps x.ms i t.1).length t.2.1.2, .slice none 0 0] 61, true⟩ :: ⟨b3, Ce [.slice am ds.length cm, .slice none 0 0, .slice none 0 0] 29, true⟩ :: ⟨b2, Ce [.slice none 0 0, .slice none 0 0, .slice none 0 0] 29, true⟩ :: ⟨b1, Ce [.slice a0 x.ms.length c0, .slice a1 x.shs.length c1, .slice a2 x.its.length c2, .slice a3 x.ps.length c3] 24, true⟩ :: (t.2.2 ++ (NM ++ (NX ++ []))))
      (I := fun t => t.1 ≤ nc ∧ OW 3 1 encI (.slice t.2.1.1 (Plt.bCaps x.ms i t.1).length t.2.1.2) (Plt.bCaps x.ms i t.1) t.2.2) (μ := fun t => nc - t.1) (s0 := (0, (none, 0), []))
    · exact ⟨Nat.zero_le _, OW.nil⟩
    · exact fS_
    · exact hS_
    rintro ⟨k, ⟨ac, cc⟩, NC⟩ ⟨hk, hOC⟩
    dsimp only at hk hOC ⊢
    have oC := hOC.own
    have hcl := Plt.bCaps_len x.ms i k
    by_cases hlt2 : k < nc
    · have nb4 := nb8 x.ms (i + k + 4)
      have e1 := Plt.bCaps_succ x.ms i k
      as_aux_lemma =>
        repeat' (first | ((with_reducible apply c_cond_t); exact rfl; exact decide_eq_true (by omega)) | ((first | ((with_reducible apply o_call_pure (f := 23)); exact rfl) | ((with_reducible apply q_call_pure (f := 23)); exact rfl; kernel_rfl; exact rfl; exact sJ_)); exact eV_; exact (fun w hw => number_is (i := i + 3) (by omega) (by omega) rfl w (h0.keep hw (by exact aO_)))) | ((first | ((with_reducible apply o_call_pure (f := 23)); exact rfl) | ((with_reducible apply q_call_pure (f := 23)); exact rfl; kernel_rfl; exact rfl; exact sJ_)); exact eV_; exact (fun w hw => number_is (i := i + k + 4) (by omega) (by omega) rfl w (h0.keep hw (by exact aO_)))) | (apply o_appH (enc := encI) (ys := [(1 + Plt.nb x.ms (i + k + 4) % 12)]); infer_instance; infer_instance; infer_instance; exact rfl; exact encI_len; exact encI_one; exact rfl; exact rfl; exact rfl; assumption; exact rL_; (exact fun w hw => SV.lit [(1 + Plt.nb x.ms (i + k + 4) % 12)] encI_len hw (by exact aT_) rfl rfl (by decide)); (first | decide | (constructor <;> (try simp only [List.length_cons, List.length_nil]) <;> omega) | (constructor <;> simp <;> omega)); intro a_ cp_ N_ hO_; have oN_ := hO_.own; (try simp only [List.nil_append, List.append_assoc] at hO_); (try simp only [List.append_eq, List.append_assoc, List.cons_append, List.nil_append])) | ((with_reducible first | apply o_move | apply o_assign | apply o_faddr0 | apply o_conv); exact rfl; exact rfl) | ((with_reducible apply gdo_load); first | refine wo_load (h := ?_) | refine wo_loadAll (h := ?_) | refine wo_loadC (h := ?_) | refine wo_ldV (h := ?_) | refine wo_ldF (h := ?_)) | ((with_reducible first | apply o_lss | apply o_eql | apply o_neq); exact rfl; exact rfl; exact rfl) | ((with_reducible first | apply o_add | apply o_sub | apply o_mul); exact rfl; exact rfl; exact rfl; (constructor <;> omega)) | ((with_reducible first | apply o_quo | apply o_rem); exact rfl; exact rfl; exact rfl; omega) | ((with_reducible apply gdo_store); first | refine wo_store1 (h := ?_) | refine wo_storeA (h := ?_)) | ((with_reducible first | apply c_seq | apply c_block | apply c_region | apply c_nil | apply c_ret | apply c_exit | apply c_skip)) | ((with_reducible first | apply e_then | apply e_then_ret | apply e_then_exit | apply e_in | apply e_in_ret | apply e_in_same)) | ((with_reducible apply c_regionD (id := 9) [] 12); kernel_rfl; kernel_rfl; simp only [List.take_succ_cons, List.take_zero, List.drop_succ_cons, List.drop_zero]) | ((with_reducible apply q_nil); try simp only [ents, List.cons_append, List.nil_append]) | ((with_reducible first | apply q_move | apply q_assign | apply q_faddr0); exact rfl; exact rfl) | ((with_reducible apply gdq_load); first | refine wq_load (h := ?_) | refine wq_loadAll (h := ?_) | refine wq_loadC (h := ?_) | refine wq_ldV (h := ?_) | refine wq_ldF (h := ?_)) | ((with_reducible first | apply q_add | apply q_sub | apply q_mul); exact rfl; exact rfl; exact rfl; (constructor <;> omega)) | ((with_reducible first | apply q_quo | apply q_rem); exact rfl; exact rfl; exact rfl; omega) | ((with_reducible apply gdq_buildSlice); refine wq_buildSlice (h := fun _ => ?_)))
        rw [← e1] at hO_ ⊢
        refine l_again (k + 1, (a_, cp_), N_) ⟨by dsimp only; omega, hO_⟩ (by dsimp only; omega) ?_ ?_
        · exact fS_
        · exact hS_
    obtain rfl : k = nc := by omega
    rw [hcl]
    repeat' (first | ((with_reducible apply c_cond_f); exact rfl; exact decide_eq_false (by omega)) | ((first | ((with_reducible apply o_call_pure (f := 23)); exact rfl) | ((with_reducible apply q_call_pure (f := 23)); exact rfl; kernel_rfl; exact rfl; exact sJ_)); exact eV_; exact (fun w hw => number_is (i := i + 3) (by omega) (by omega) rfl w (h0.keep hw (by exact aO_)))) | ((first | ((with_reducible apply o_call_pure (f := 23)); exact rfl) | ((with_reducible apply q_call_pure (f := 23)); exact rfl; kernel_rfl; exact rfl; exact sJ_)); exact eV_; exact (fun w hw => number_is (i := i) (by omega) (by omega) rfl w (h1.keep hw (by exact aO_)))) | ((with_reducible first | apply o_move | apply o_assign | apply o_faddr0 | apply o_conv); exact rfl; exact rfl) | ((with_reducible apply gdo_load); first | refine wo_load (h := ?_) | refine wo_loadAll (h := ?_) | refine wo_loadC (h := ?_) | refine wo_ldV (h := ?_) | refine wo_ldF (h := ?_)) | ((with_reducible first | apply o_lss | apply o_eql | apply o_neq); exact rfl; exact rfl; exact rfl) | ((with_reducible first | apply o_add | apply o_sub | apply o_mul); exact rfl; exact rfl; exact rfl; (constructor <;> omega)) | ((with_reducible first | apply o_quo | apply o_rem); exact rfl; exact rfl; exact rfl; omega) | ((with_reducible first | apply c_seq | apply c_block | apply c_region | apply c_nil | apply c_ret | apply c_exit | apply c_skip)) | ((with_reducible first | apply e_then | apply e_then_ret | apply e_then_exit | apply e_in | apply e_in_ret | apply e_in_same)))
    apply c_loop (σ := Nat × (Option Addr × Nat) × List Ent) (Fs := fun t => [(8, .int .i64 t.1), (7, .int .i64 (Plt.bT x.shs i t.1)), (5, ptr b5), (4, .int .i64 i), (3, ptr b3), (2, ptr b2), (1, ptr b1)])
      (Ls := fun t => ⟨b5, Ce [.int .i64 (5 + i), .int .i64 sw, .int .i64 ra, .slice ac k cc, .slice t.2.1.1 (Plt.bShs x.shs i t.1).length t.2.1.2] 61, true⟩ :: ⟨b3, Ce [.slice am ds.length cm, .slice none 0 0, .slice none 0 0] 29, true⟩ :: ⟨b2, Ce [.slice none 0 0, .slice none 0 0, .slice none 0 0] 29, true⟩ :: ⟨b1, Ce [.slice a0 x.ms.length c0, .slice a1 x.shs.length c1, .slice a2 x.its.length c2, .slice a3 x.ps.length c3] 24, true⟩ :: (t.2.2 ++ (NC ++ (NM ++ (NX ++ [])))))
      (I := fun t => t.1 ≤ ns ∧ OW 70 2 encSh (.slice t.2.1.1 (Plt.bShs x.shs i t.1).length t.2.1.2) (Plt.bShs x.shs i t.1) t.2.2) (μ := fun t => ns - t.1) (s0 := (0, (none, 0), []))
    · exact ⟨Nat.zero_le _, OW.nil⟩
    · exact fS_
    · exact hS_
    rintro ⟨k', ⟨as_, cs_⟩, NS_⟩ ⟨hk', hOS⟩
    dsimp only at hk' hOS ⊢
    have oS := hOS.own
    have hsl := Plt.bShs_len x.shs i k'
    have htb := Plt.bT_bd x.shs i k'
    by_cases hlt3 : k' < ns
    · have nb5 := nb8 x.shs (i + k' + 2)
      have nb6 := nb8 x.shs (i + k' + 3)
      have e1 := Plt.bShs_succ x.shs i k'
      have e2 : Plt.bT x.shs i (k' + 1) = Plt.bT x.shs i k' + 1 + Plt.nb x.shs (i + k' + 2) % 12 + Plt.nb x.shs (i + k' + 3) % 5 := rfl
      unfold Plt.bSh at e1
      as_aux_lemma =>
        repeat' (first | ((with_reducible apply c_cond_t); exact rfl; exact decide_eq_true (by omega)) | ((first | ((with_reducible apply o_call_pure (f := 23)); exact rfl) | ((with_reducible apply q_call_pure (f := 23)); exact rfl; kernel_rfl; exact rfl; exact sJ_)); exact eV_; exact (fun w hw => number_is (i := i + 1) (by omega) (by omega) rfl w (h1.keep hw (by exact aO_)))) | ((first | ((with_reducible apply o_call_pure (f := 23)); exact rfl) | ((with_reducible apply q_call_pure (f := 23)); exact rfl; kernel_rfl; exact rfl; exact sJ_)); exact eV_; exact (fun w hw => number_is (i := i + k' + 2) (by omega) (by omega) rfl w (h1.keep hw (by exact aO_)))) | (apply o_appH (enc := encSh) (ys := [(⟨Plt.bT x.shs i k', Plt.bT x.shs i k' + 1 + Plt.nb x.shs (i + k' + 2) % 12⟩ : Plt.Sh)]); infer_instance; infer_instance; infer_instance; exact rfl; exact encSh_len; exact encSh_one; exact rfl; exact rfl; exact rfl; assumption; exact rL_; (exact fun w hw => SV.lit [(⟨Plt.bT x.shs i k', Plt.bT x.shs i k' + 1 + Plt.nb x.shs (i + k' + 2) % 12⟩ : Plt.Sh)] encSh_len hw (by exact aT_) rfl rfl (by decide)); (first | decide | (constructor <;> (try simp only [List.length_cons, List.length_nil]) <;> omega) | (constructor <;> simp <;> omega)); intro a_ cp_ N_ hO_; have oN_ := hO_.own; (try simp only [List.nil_append, List.append_assoc] at hO_); (try simp only [List.append_eq, List.append_assoc, List.cons_append, List.nil_append])) | ((with_reducible first | apply o_move | apply o_assign | apply o_faddr0 | apply o_conv); exact rfl; exact rfl) | ((with_reducible apply gdo_load); first | refine wo_load (h := ?_) | refine wo_loadAll (h := ?_) | refine wo_loadC (h := ?_) | refine wo_ldV (h := ?_) | refine wo_ldF (h := ?_)) | ((with_reducible first | apply o_lss | apply o_eql | apply o_neq); exact rfl; exact rfl; exact rfl) | ((with_reducible first | apply o_add | apply o_sub | apply o_mul); exact rfl; exact rfl; exact rfl; (constructor <;> omega)) | ((with_reducible first | apply o_quo | apply o_rem); exact rfl; exact rfl; exact rfl; omega) | ((with_reducible apply gdo_store); first | refine wo_store1 (h := ?_) | refine wo_storeA (h := ?_)) | ((with_reducible first | apply c_seq | apply c_block | apply c_region | apply c_nil | apply c_ret | apply c_exit | apply c_skip)) | ((with_reducible first | apply e_then | apply e_then_ret | apply e_then_exit | apply e_in | apply e_in_ret | apply e_in_same)) | ((with_reducible apply c_regionD (id := 14) [] 16); kernel_rfl; kernel_rfl; simp only [List.take_succ_cons, List.take_zero, List.drop_succ_cons, List.drop_zero]) | ((with_reducible apply q_nil); try simp only [ents, List.cons_append, List.nil_append]) | ((with_reducible first | apply q_move | apply q_assign | apply q_faddr0); exact rfl; exact rfl) | ((with_reducible apply gdq_load); first | refine wq_load (h := ?_) | refine wq_loadAll (h := ?_) | refine wq_loadC (h := ?_) | refine wq_ldV (h := ?_) | refine wq_ldF (h := ?_)) | ((with_reducible first | apply q_add | apply q_sub | apply q_mul); exact rfl; exact rfl; exact rfl; (constructor <;> omega)) | ((with_reducible first | apply q_quo | apply q_rem); exact rfl; exact rfl; exact rfl; omega) | ((with_reducible apply gdq_build); first | refine wq_build (h := ?_)) | ((with_reducible apply gdq_buildSlice); refine wq_buildSlice (h := fun _ => ?_)))
        rw [← e1] at hO_ ⊢
        obtain ⟨b', s', rfl, rfl⟩ := OW.some hO_ (by rw [Plt.bShs_len]; omega)
        simp only [List.cons_append, List.nil_append]
        have hx : (Plt.bShs x.shs i (k' + 1))[k']? = some ⟨Plt.bT x.shs i k', Plt.bT x.shs i k' + 1 + Plt.nb x.shs (i + k' + 2) % 12⟩ := by rw [e1, List.getElem?_append_right (by omega)]; simp [hsl]
        have q1 : ∀ (j : Nat) (u : Value), ([.int .i64 (Plt.bT x.shs i k'), .int .i64 (Plt.bT x.shs i k' + 1 + Plt.nb x.shs (i + k' + 2) % 12)] : List Value)[j]? = some u → ((Plt.bShs x.shs i (k' + 1)).flatMap encSh ++ s').toArray[0 + k' * 2 + j]? = some u := (Pat.flat encSh_len _ s').get hx
        have hsl1 := Plt.bShs_len x.shs i (k' + 1)
        repeat' (first | ((first | ((with_reducible apply o_call_pure (f := 23)); exact rfl) | ((with_reducible apply q_call_pure (f := 23)); exact rfl; kernel_rfl; exact rfl; exact sJ_)); exact eV_; exact (fun w hw => number_is (i := i + k' + 3) (by omega) (by omega) rfl w (h1.keep hw (by exact aO_)))) | ((with_reducible first | apply o_move | apply o_assign | apply o_faddr0 | apply o_conv); exact rfl; exact rfl) | ((with_reducible first | apply o_add | apply o_sub | apply o_mul); exact rfl; exact rfl; exact rfl; (constructor <;> omega)) | ((with_reducible first | apply c_seq | apply c_block | apply c_region | apply c_nil | apply c_ret | apply c_exit | apply c_skip)) | ((with_reducible first | apply e_then | apply e_then_ret | apply e_then_exit | apply e_in | apply e_in_ret | apply e_in_same)) | ((with_reducible apply c_regionD0 (id := 15) []); kernel_rfl; kernel_rfl) | ((with_reducible apply q_nil); try simp only [ents, List.cons_append, List.nil_append]) | ((with_reducible first | apply q_move | apply q_assign | apply q_faddr0); exact rfl; exact rfl) | ((with_reducible apply q_faddr); exact rfl; exact rfl) | ((with_reducible apply gdq_load); first | refine wq_load (h := ?_) | refine wq_loadAll (h := ?_) | refine wq_loadC (h := ?_) | refine wq_ldV (h := ?_) | refine wq_ldF (h := ?_)) | ((with_reducible first | apply q_add | apply q_sub | apply q_mul); exact rfl; exact rfl; exact rfl; (constructor <;> omega)) | ((with_reducible first | apply q_quo | apply q_rem); exact rfl; exact rfl; exact rfl; omega) | ((with_reducible apply q_idx); infer_instance; infer_instance; exact rfl; exact rfl; (first | exact rfl | omega); exact rfl; (first | assumption | omega | decide)))
        refine l_again (k' + 1, (_, cp_), _) ⟨by dsimp only; omega, hO_⟩ (by dsimp only; omega) ?_ ?_
        · (try dsimp only); rw [e2]; exact fS_
        · simp only [List.cons_append, List.nil_append]; exact hS_
    obtain rfl : k' = ns := by omega
    rw [hsl]
    have hnx : Shw (NC ++ (NS_ ++ NX)) (fun w => ∀ (j : Nat) (d : MD) (m : Plt.Mach), (ds ++ [(⟨5 + i, sw, ra, (ac, k, cc), (as_, k', cs_)⟩ : MD)])[j]? = some d → (Plt.bMsN x.ms x.shs (i + 1))[j]? = some m → MachV w d m) := by
      rw [Plt.bMsN_succ, hbm]
      intro w0 w1 L L0 hr hw j d m hd hm
      have hml := Plt.bMsN_len x.ms x.shs i
      by_cases hj : j < ds.length
      · rw [List.getElem?_append_left hj] at hd
        rw [List.getElem?_append_left (by omega)] at hm
        exact (Shw.right (Shw.right hMX)) w0 w1 L L0 hr hw j d m hd hm
      · have : j = ds.length := by
          have h := (List.getElem?_eq_some_iff.1 hd).1
          rw [List.length_append, List.length_singleton] at h
          omega
        subst this
        rw [List.getElem?_append_right (Nat.le_refl _), Nat.sub_self] at hd
        rw [List.getElem?_append_right (by omega), hdl, hml, Nat.sub_self] at hm
        cases hd; cases hm
        rw [hcl] at hOC
        rw [hsl] at hOS
        exact ⟨rfl, rfl, rfl, (Shw.left (Shw.ow encI_len hOC)) w0 w1 L L0 hr hw, (Shw.right (Shw.left (Shw.ow encSh_len hOS))) w0 w1 L L0 hr hw⟩
    as_aux_lemma =>
      repeat' (first | ((with_reducible apply c_cond_f); exact rfl; exact decide_eq_false (by omega)) | ((first | ((with_reducible apply o_call_pure (f := 23)); exact rfl) | ((with_reducible apply q_call_pure (f := 23)); exact rfl; kernel_rfl; exact rfl; exact sJ_)); exact eV_; exact (fun w hw => number_is (i := i + 1) (by omega) (by omega) rfl w (h1.keep hw (by exact aO_)))) | (apply o_appH (enc := encMD) (ys := [(⟨5 + i, sw, ra, (ac, k, cc), (as_, k', cs_)⟩ : MD)]); infer_instance; infer_instance; infer_instance; exact rfl; exact encMD_len; exact encMD_one; exact rfl; exact rfl; exact rfl; assumption; exact rL_; (exact fun w hw => SV.lit [(⟨5 + i, sw, ra, (ac, k, cc), (as_, k', cs_)⟩ : MD)] encMD_len hw (by exact aT_) rfl rfl (by decide)); (first | decide | (constructor <;> (try simp only [List.length_cons, List.length_nil]) <;> omega) | (constructor <;> simp <;> omega)); intro a_ cp_ N_ hO_; have oN_ := hO_.own; (try simp only [List.nil_append, List.append_assoc] at hO_); (try simp only [List.append_eq, List.append_assoc, List.cons_append, List.nil_append])) | ((with_reducible first | apply o_move | apply o_assign | apply o_faddr0 | apply o_conv); exact rfl; exact rfl) | ((with_reducible apply gdo_load); first | refine wo_load (h := ?_) | refine wo_loadAll (h := ?_) | refine wo_loadC (h := ?_) | refine wo_ldV (h := ?_) | refine wo_ldF (h := ?_)) | ((with_reducible first | apply o_lss | apply o_eql | apply o_neq); exact rfl; exact rfl; exact rfl) | ((with_reducible first | apply o_add | apply o_sub | apply o_mul); exact rfl; exact rfl; exact rfl; (constructor <;> omega)) | ((with_reducible first | apply o_quo | apply o_rem); exact rfl; exact rfl; exact rfl; omega) | ((with_reducible apply gdo_store); first | refine wo_store1 (h := ?_) | refine wo_storeA (h := ?_)) | ((with_reducible apply gdo_buildSlice); refine wo_buildSlice (h := fun _ => ?_)) | ((with_reducible first | apply c_seq | apply c_block | apply c_region | apply c_nil | apply c_ret | apply c_exit | apply c_skip)) | ((with_reducible first | apply e_then | apply e_then_ret | apply e_then_exit | apply e_in | apply e_in_ret | apply e_in_same)))
      refine l_again (i + 1, (a_, cp_), ds ++ [(⟨5 + i, sw, ra, (ac, k, cc), (as_, k', cs_)⟩ : MD)], N_, NC ++ (NS_ ++ NX)) ⟨by dsimp only; omega, by simp [hdl], hO_, own_app oC (own_app oS oX), hnx⟩ (by dsimp only; omega) ?_ ?_
      · exact fS_
      · simp only [List.append_assoc]; exact hS_
  obtain rfl : i = (1 + Plt.nb x.ms 0 % 3).toNat := by omega
  have hms : Plt.bMsN x.ms x.shs (1 + Plt.nb x.ms 0 % 3).toNat = Plt.bMs x := rfl
  have hml : (Plt.bMs x).length = (1 + Plt.nb x.ms 0 % 3).toNat := Plt.bMsN_len _ _ _
  rw [hms] at hMX
  have hml3 : 1 ≤ (Plt.bMs x).length ∧ (Plt.bMs x).length ≤ 3 := by omega
  rw [← hml] at hdl
  repeat' (first | ((with_reducible apply c_cond_f); exact rfl; exact decide_eq_false (by omega)) | ((first | ((with_reducible apply o_call_pure (f := 23)); exact rfl) | ((with_reducible apply q_call_pure (f := 23)); exact rfl; kernel_rfl; exact rfl; exact sJ_)); exact eV_; exact (fun w hw => number_is (i := 0) (by omega) (by omega) rfl w (h0.keep hw (by exact aO_)))) | ((with_reducible first | apply o_move | apply o_assign | apply o_faddr0 | apply o_conv); exact rfl; exact rfl) | ((with_reducible apply gdo_load); first | refine wo_load (h := ?_) | refine wo_loadAll (h := ?_) | refine wo_loadC (h := ?_) | refine wo_ldV (h := ?_) | refine wo_ldF (h := ?_)) | ((with_reducible first | apply o_lss | apply o_eql | apply o_neq); exact rfl; exact rfl; exact rfl) | ((with_reducible first | apply o_add | apply o_sub | apply o_mul); exact rfl; exact rfl; exact rfl; (constructor <;> omega)) | ((with_reducible first | apply o_quo | apply o_rem); exact rfl; exact rfl; exact rfl; omega) | ((with_reducible first | apply c_seq | apply c_region | apply c_nil | apply c_ret | apply c_exit | apply c_skip)) | ((with_reducible first | apply e_then | apply e_then_ret | apply e_then_exit | apply e_in | apply e_in_ret | apply e_in_same)))
  clear hlt hi
  apply c_post (σ := (Option Addr × Nat) × List Ent) (Ds := fun _ => []) (Fs := fun _ => [(3, ptr b3), (2, ptr b2), (1, ptr b1)])
    (Ls := fun t => ⟨b3, Ce [.slice am ds.length cm, .slice t.1.1 (Plt.bIs x).length t.1.2, .slice none 0 0] 29, true⟩ :: ⟨b2, Ce [.slice none 0 0, .slice none 0 0, .slice none 0 0] 29, true⟩ :: ⟨b1, Ce [.slice a0 x.ms.length c0, .slice a1 x.shs.length c1, .slice a2 x.its.length c2, .slice a3 x.ps.length c3] 24, true⟩ :: (t.2 ++ (NM ++ (NX ++ []))))
    (I := fun t => OW 38 3 encItem (.slice t.1.1 (Plt.bIs x).length t.1.2) (Plt.bIs x) t.2)
  · as_aux_lemma =>
    repeat' (first | ((with_reducible first | apply c_seq | apply c_block | apply c_region | apply c_nil | apply c_ret | apply c_exit | apply c_skip)))
    apply c_loop (σ := Nat × (Option Addr × Nat) × List Ent) (Fs := fun t => [(9, .int .i64 t.1), (3, ptr b3), (2, ptr b2), (1, ptr b1)])
      (Ls := fun t => ⟨b3, Ce [.slice am ds.length cm, .slice t.2.1.1 (Plt.bIsN x.its t.1).length t.2.1.2, .slice none 0 0] 29, true⟩ :: ⟨b2, Ce [.slice none 0 0, .slice none 0 0, .slice none 0 0] 29, true⟩ :: ⟨b1, Ce [.slice a0 x.ms.length c0, .slice a1 x.shs.length c1, .slice a2 x.its.length c2, .slice a3 x.ps.length c3] 24, true⟩ :: (t.2.2 ++ (NM ++ (NX ++ []))))
      (I := fun t => t.1 ≤ min x.its.length 40 ∧ OW 38 3 encItem (.slice t.2.1.1 (Plt.bIsN x.its t.1).length t.2.1.2) (Plt.bIsN x.its t.1) t.2.2) (μ := fun t => min x.its.length 40 - t.1) (s0 := (0, (none, 0), []))
    · exact ⟨Nat.zero_le _, OW.nil⟩
    · exact fS_
    · exact hS_
    rintro ⟨i, ⟨ai, ci⟩, NI⟩ ⟨hi, hOI⟩
    dsimp only at hi hOI ⊢
    have oI := hOI.own
    have hil := Plt.bIsN_len x.its i
    by_cases hlt : i < min x.its.length 40
    · obtain ⟨y, hx⟩ : ∃ y, x.its[i]? = some y := ⟨_, List.getElem?_eq_getElem (by omega)⟩
      obtain ⟨b, off, cx, e, fz, rfl, hk, hp⟩ := hop2 (by omega)
      have g1 : cx[off + i * 1]? = some (.int .u8 (y.toNat : Int)) := hp.one hx rfl
      have hy8 := y.toNat_lt
      have hgd : x.its.getD i 0 = y := by simp [List.getD_eq_getElem?_getD, hx]
      have e1 := Plt.bIsN_succ x.its i
      unfold Plt.bItem at e1
      rw [hgd] at e1
      as_aux_lemma =>
        repeat' (first | ((with_reducible apply c_cond_t); exact rfl; exact decide_eq_true (by omega)) | ((with_reducible apply o_pick_t); exact rfl; exact decide_eq_true (by omega); exact rfl; exact rfl) | ((with_reducible apply g_run); exact rfl; exact decide_eq_true (by omega)) | ((with_reducible apply q_conv8); infer_instance; infer_instance; exact rfl; exact rfl; exact sJ_; (constructor <;> omega); exact rfl) | (apply o_appH (enc := encItem) (ys := [(⟨100 - 2 * i, (y.toNat : Int) % 9, 1 + (y.toNat : Int) / 9 % 3⟩ : Plt.Item)]); infer_instance; infer_instance; infer_instance; exact rfl; exact encItem_len; exact encItem_one; exact rfl; exact rfl; exact rfl; assumption; exact rL_; (exact fun w hw => SV.lit [(⟨100 - 2 * i, (y.toNat : Int) % 9, 1 + (y.toNat : Int) / 9 % 3⟩ : Plt.Item)] encItem_len hw (by exact aT_) rfl rfl (by decide)); (first | decide | (constructor <;> (try simp only [List.length_cons, List.length_nil]) <;> omega) | (constructor <;> simp <;> omega)); intro a_ cp_ N_ hO_; have oN_ := hO_.own; (try simp only [List.nil_append, List.append_assoc] at hO_); (try simp only [List.append_eq, List.append_assoc, List.cons_append, List.nil_append])) | ((with_reducible first | apply o_move | apply o_assign | apply o_faddr0 | apply o_conv); exact rfl; exact rfl) | ((with_reducible apply gdo_load); first | refine wo_load (h := ?_) | refine wo_loadAll (h := ?_) | refine wo_loadC (h := ?_) | refine wo_ldV (h := ?_) | refine wo_ldF (h := ?_)) | ((with_reducible first | apply o_lss | apply o_eql | apply o_neq); exact rfl; exact rfl; exact rfl) | ((with_reducible first | apply o_add | apply o_sub | apply o_mul); exact rfl; exact rfl; exact rfl; (constructor <;> omega)) | ((with_reducible apply gdo_store); first | refine wo_store1 (h := ?_) | refine wo_storeA (h := ?_)) | ((with_reducible apply o_len); infer_instance; exact rfl; exact rfl) | ((with_reducible first | apply c_seq | apply c_block | apply c_region | apply c_nil | apply c_ret | apply c_exit | apply c_skip)) | ((with_reducible first | apply e_then | apply e_then_ret | apply e_then_exit | apply e_in | apply e_in_ret | apply e_in_same)) | ((with_reducible apply c_regionD (id := 20) [] 23); kernel_rfl; kernel_rfl; simp only [List.take_succ_cons, List.take_zero, List.drop_succ_cons, List.drop_zero]) | ((with_reducible apply q_nil); try simp only [ents, List.cons_append, List.nil_append]) | ((with_reducible first | apply q_move | apply q_assign | apply q_faddr0); exact rfl; exact rfl) | ((with_reducible apply gdq_load); first | refine wq_load (h := ?_) | refine wq_loadAll (h := ?_) | refine wq_loadC (h := ?_) | refine wq_ldV (h := ?_) | refine wq_ldF (h := ?_)) | ((with_reducible first | apply q_add | apply q_sub | apply q_mul); exact rfl; exact rfl; exact rfl; (constructor <;> omega)) | ((with_reducible first | apply q_quo | apply q_rem); exact rfl; exact rfl; exact rfl; omega) | ((with_reducible apply gdq_build); first | refine wq_build (h := ?_)) | ((with_reducible apply q_idx); infer_instance; infer_instance; exact rfl; exact rfl; (first | exact rfl | omega); exact rfl; (first | assumption | omega | decide)) | ((with_reducible apply gdq_buildSlice); refine wq_buildSlice (h := fun _ => ?_)))
        rw [← e1] at hO_ ⊢
        refine l_again (i + 1, (a_, cp_), N_) ⟨by dsimp only; omega, hO_⟩ (by dsimp only; omega) ?_ ?_
        · exact fS_
        · exact hS_
    obtain rfl : i = min x.its.length 40 := by omega
    repeat' (first | ((with_reducible apply c_cond_f); exact rfl; exact decide_eq_false (by omega)) | ((with_reducible apply o_pick_t); exact rfl; exact decide_eq_true (by omega); exact rfl; exact rfl) | ((with_reducible apply o_pick_f); exact rfl; exact decide_eq_false (by omega); exact rfl; exact rfl) | ((with_reducible apply g_run); exact rfl; exact decide_eq_true (by omega)) | ((with_reducible apply g_skip); exact rfl; exact decide_eq_false (by omega); exact rfl) | ((with_reducible first | apply o_move | apply o_assign | apply o_faddr0 | apply o_conv); exact rfl; exact rfl) | ((with_reducible apply gdo_load); first | refine wo_load (h := ?_) | refine wo_loadAll (h := ?_) | refine wo_loadC (h := ?_) | refine wo_ldV (h := ?_) | refine wo_ldF (h := ?_)) | ((with_reducible first | apply o_lss | apply o_eql | apply o_neq); exact rfl; exact rfl; exact rfl) | ((with_reducible apply o_len); infer_instance; exact rfl; exact rfl) | ((with_reducible first | apply c_seq | apply c_block | apply c_region | apply c_nil | apply c_ret | apply c_exit | apply c_skip)) | ((with_reducible apply c_cond_f); exact rfl; exact fF_) | ((with_reducible first | apply e_then | apply e_then_ret | apply e_then_exit | apply e_in | apply e_in_ret | apply e_in_same)) | ((with_reducible apply g_split_d); exact rfl; intro hcond; rotate_left; intro hcond; rotate_left))
    all_goals
      refine l_meetD ((ai, ci), NI) hOI rfl ?_ ?_
      · exact fS_
      · exact hS_
  rintro ⟨⟨ai, ci⟩, NI⟩ hOI
  dsimp only at hOI ⊢
  have oI := hOI.own
  have hitl : (Plt.bIs x).length ≤ 40 := by unfold Plt.bIs; rw [Plt.bIsN_len]; omega
  generalize hI : Plt.bIs x = its at *
  generalize hM : Plt.bMs x = ms at *
  repeat' (first | ((with_reducible first | apply o_move | apply o_assign | apply o_faddr0 | apply o_conv); exact rfl; exact rfl) | ((with_reducible first | apply c_seq | apply c_block | apply c_region | apply c_nil | apply c_ret | apply c_exit | apply c_skip)) | ((with_reducible first | apply e_then | apply e_then_ret | apply e_then_exit | apply e_in | apply e_in_ret | apply e_in_same)))
  apply c_loop (σ := Nat × ((Option Addr × Nat) × List Ent) × ((Option Addr × Nat) × List PD × List Ent) × List Ent) (Fs := fun t => [(11, .int .i64 t.1), (10, .slice t.2.1.1.1 (Plt.bAt ms its x.ps t.1).1.length t.2.1.1.2), (3, ptr b3), (2, ptr b2), (1, ptr b1)])
    (Ls := fun t => ⟨b3, Ce [.slice am ds.length cm, .slice ai its.length ci, .slice t.2.2.1.1.1 t.2.2.1.2.1.length t.2.2.1.1.2] 29, true⟩ :: ⟨b2, Ce [.slice none 0 0, .slice none 0 0, .slice none 0 0] 29, true⟩ :: ⟨b1, Ce [.slice a0 x.ms.length c0, .slice a1 x.shs.length c1, .slice a2 x.its.length c2, .slice a3 x.ps.length c3] 24, true⟩ :: (t.2.1.2 ++ (t.2.2.1.2.2 ++ (t.2.2.2 ++ (NI ++ (NM ++ (NX ++ [])))))))
    (I := fun t => (t.1 ≤ min x.ps.length 6 ∧ (Plt.bAt ms its x.ps t.1).1.length ≤ 5 * t.1) ∧ OW 64 2 encSrc (.slice t.2.1.1.1 (Plt.bAt ms its x.ps t.1).1.length t.2.1.1.2) (Plt.bAt ms its x.ps t.1).1 t.2.1.2 ∧ t.2.2.1.2.1.length = t.1 ∧ OW 58 6 encPD (.slice t.2.2.1.1.1 t.2.2.1.2.1.length t.2.2.1.1.2) t.2.2.1.2.1 t.2.2.1.2.2 ∧ (∀ e ∈ t.2.2.2, e.own = true) ∧
      Shw t.2.2.2 (fun w => ∀ (j : Nat) (d : PD) (y : Plt.Pass), t.2.2.1.2.1[j]? = some d → (Plt.bAt ms its x.ps t.1).2[j]? = some y → PassV w d y))
    (μ := fun t => min x.ps.length 6 - t.1) (s0 := (0, ((none, 0), []), ((none, 0), [], []), []))
  · exact ⟨⟨Nat.zero_le _, Nat.zero_le _⟩, OW.nil, rfl, OW.nil, by simp, fun _ _ _ _ _ _ j d y hd _ => by simp at hd⟩
  · exact fS_
  · exact hS_
  rintro ⟨i, ⟨⟨al, cl⟩, NL⟩, ⟨⟨ap, cp⟩, ys, NP⟩, NY⟩ ⟨⟨hi, hlb⟩, hOL, hyl, hOP, oY, hPY⟩
  dsimp only at hi hlb hOL hyl hOP oY hPY ⊢
  have oL := hOL.own
  have oP := hOP.own
  by_cases hlt : i < min x.ps.length 6
  · obtain ⟨y8, hx⟩ : ∃ y, x.ps[i]? = some y := ⟨_, List.getElem?_eq_getElem (by omega)⟩
    obtain ⟨b, off, cx, e, fz, rfl, hk, hp⟩ := hop3 (by omega)
    have g1 : cx[off + i * 1]? = some (.int .u8 (y8.toNat : Int)) := hp.one hx rfl
    have hy8 := y8.toNat_lt
    have hgd : x.ps.getD i 0 = y8 := by simp [List.getD_eq_getElem?_getD, hx]
    have hnext1 : (Plt.bAt ms its x.ps (i + 1)).1 = Plt.bNext ms y8.toNat i (Plt.bAt ms its x.ps i).1 := by rw [Plt.bAt, hgd]
    have hnext2 : (Plt.bAt ms its x.ps (i + 1)).2 = (Plt.bAt ms its x.ps i).2 ++ [Plt.bPass ms its y8.toNat i (Plt.bAt ms its x.ps i).1] := by rw [Plt.bAt, hgd]
    have hpsl := Plt.bAt_len ms its x.ps i
    generalize (Plt.bAt ms its x.ps i).2 = pss at hPY hnext2 hpsl
    generalize (Plt.bAt ms its x.ps i).1 = left at hOL hlb hnext1 hnext2 ⊢
    generalize y8.toNat = n at *
    clear hgd
    obtain ⟨j, hj⟩ : ∃ j, n % ms.length = j := ⟨_, rfl⟩
    have hjl : j < ms.length := by rw [← hj]; exact Nat.mod_lt _ (by omega)
    have hji : (n : Int) % (ms.length : Int) = (j : Int) := by omega
    obtain ⟨m, hm⟩ : ∃ m, ms[j]? = some m := ⟨_, List.getElem?_eq_getElem hjl⟩
    obtain ⟨d, hd⟩ : ∃ d, ds[j]? = some d := ⟨_, List.getElem?_eq_getElem (by omega)⟩
    have hmd : Plt.bMd ms n = m := by unfold Plt.bMd; rw [hj]; simp [List.getD_eq_getElem?_getD, hm]
    have hcm : m.caps.length ≤ 4 ∧ 1 ≤ m.caps.length := by
      have := Plt.bMs_caps (x := x) (m := m) (by rw [hM]; exact List.mem_of_getElem? hm)
      omega
    refine st_know (fun w' hw' => (hMX _ _ _ _ (by exact rL_) hw' j d m hd hm).eqs) ?_
    rintro ⟨x1, k1, x2, k2, rfl⟩
    obtain ⟨bM, sM, rfl, rfl⟩ := OW.some hOM (by omega)
    have q1 : ∀ (j' : Nat) (u : Value), ([.int .i64 m.id, .int .i64 m.sweeps, .int .i64 m.rate, .slice x1 m.caps.length k1, .slice x2 m.shifts.length k2] : List Value)[j']? = some u → (ds.flatMap encMD ++ sM).toArray[0 + j * 5 + j']? = some u := (Pat.flat encMD_len ds sM).get hd
    simp only [List.cons_append, List.nil_append]
    obtain ⟨c, hc⟩ : ∃ c, m.caps.length = c := ⟨_, rfl⟩
    have hbp : Plt.bPass ms its n i left = ⟨20 - i, m.id, (n : Int) / 8 % 16, (Plt.bPick n 0 [] [] (Plt.bLeft i left)).1, Plt.bTab n c 8, Plt.bUn its n i its.length⟩ := by unfold Plt.bPass; rw [hmd, hc]
    have hbn : Plt.bNext ms n i left = (Plt.bPick n 0 [] [] (Plt.bLeft i left)).2 ++ Plt.bSrcs (20 - i) c := by unfold Plt.bNext; rw [hmd, hc]
    rw [hc] at hcm q1
    rw [hbp] at hnext2
    rw [hbn] at hnext1
    generalize m.id = mid at *
    generalize m.sweeps = msw at *
    generalize m.rate = mra at *
    generalize m.shifts.length = msl at *
    clear hbp hbn hmd
    repeat' (first | ((with_reducible apply c_cond_t); exact rfl; exact decide_eq_true (by omega)) | ((with_reducible apply o_pick_t); exact rfl; exact decide_eq_true (by omega); exact rfl; exact rfl) | ((with_reducible apply g_run); exact rfl; exact decide_eq_true (by omega)) | ((with_reducible apply o_conv8); infer_instance; infer_instance; exact rfl; (constructor <;> omega); exact rfl) | ((with_reducible first | apply o_move | apply o_assign | apply o_faddr0 | apply o_conv); exact rfl; exact rfl) | ((with_reducible apply gdo_load); first | refine wo_load (h := ?_) | refine wo_loadAll (h := ?_) | refine wo_loadC (h := ?_) | refine wo_ldV (h := ?_) | refine wo_ldF (h := ?_)) | ((with_reducible first | apply o_lss | apply o_eql | apply o_neq); exact rfl; exact rfl; exact rfl) | ((with_reducible apply o_len); infer_instance; exact rfl; exact rfl) | ((with_reducible apply o_idx); infer_instance; infer_instance; exact rfl; exact rfl; (first | exact rfl | omega); exact rfl; (first | assumption | omega | decide)) | ((with_reducible first | apply c_seq | apply c_block | apply c_region | apply c_nil | apply c_ret | apply c_exit | apply c_skip)) | ((with_reducible first | apply e_then | apply e_then_ret | apply e_then_exit | apply e_in | apply e_in_ret | apply e_in_same)))
    repeat' (first | ((with_reducible apply q_remE (v := (j : Int))); exact rfl; exact rfl; (rw [hdl]; exact hji); omega; exact rfl) | ((with_reducible first | apply o_move | apply o_assign | apply o_faddr0 | apply o_conv); exact rfl; exact rfl) | ((with_reducible apply gdo_load); first | refine wo_load (h := ?_) | refine wo_loadAll (h := ?_) | refine wo_loadC (h := ?_) | refine wo_ldV (h := ?_) | refine wo_ldF (h := ?_)) | ((with_reducible first | apply o_lss | apply o_eql | apply o_neq); exact rfl; exact rfl; exact rfl) | ((with_reducible first | apply o_add | apply o_sub | apply o_mul); exact rfl; exact rfl; exact rfl; (constructor <;> omega)) | ((with_reducible first | apply o_quo | apply o_rem); exact rfl; exact rfl; exact rfl; omega) | ((with_reducible apply o_alloc); exact rfl; intro _) | ((with_reducible apply gdo_store); first | refine wo_store1 (h := ?_) | refine wo_storeA (h := ?_)) | ((with_reducible apply gdo_build); first | refine wo_build (h := ?_)) | ((with_reducible first | apply c_seq | apply c_block | apply c_region | apply c_nil | apply c_ret | apply c_exit | apply c_skip)) | ((with_reducible first | apply e_then | apply e_then_ret | apply e_then_exit | apply e_in | apply e_in_ret | apply e_in_same)) | ((with_reducible apply c_regionD0 (id := 26) []); kernel_rfl; kernel_rfl) | ((with_reducible apply q_nil); try simp only [ents, List.cons_append, List.nil_append]) | ((with_reducible first | apply q_move | apply q_assign | apply q_faddr0); exact rfl; exact rfl) | ((with_reducible apply gdq_load); first | refine wq_load (h := ?_) | refine wq_loadAll (h := ?_) | refine wq_loadC (h := ?_) | refine wq_ldV (h := ?_) | refine wq_ldF (h := ?_)) | ((with_reducible apply gdq_call_len); first | refine wq_len (h := ?_)) | ((with_reducible apply q_idx); infer_instance; infer_instance; exact rfl; exact rfl; (first | exact rfl | omega); exact rfl; (first | assumption | omega | decide)) | ((with_reducible apply gdq_store); first | refine wq_storeAE (h := ?_)) | ((with_reducible apply q_alloc); exact rfl; intro _))
    rename_i b13 b14
    obtain ⟨rel, hrel⟩ : ∃ rel, (n : Int) / 8 % 16 = rel := ⟨_, rfl⟩
    rw [hrel] at hnext2 ⊢
    clear hrel hji hj g1 hx hp
    apply c_post (σ := (Option Addr × Nat) × List Ent) (Ds := fun _ => []) (Fs := fun t => [(10, .slice t.1.1 (Plt.bLeft i left).length t.1.2), (14, ptr b14), (13, ptr b13), (12, .int .i64 n), (11, .int .i64 i), (3, ptr b3), (2, ptr b2), (1, ptr b1)])
      (Ls := fun t => ⟨b14, Ce [.int .i64 (20 - i), .int .i64 mid, .int .i64 rel, .slice none 0 0, .slice none 0 0, .slice none 0 0] 58, true⟩ :: ⟨b13, Ce [.int .i64 mid, .int .i64 msw, .int .i64 mra, .slice x1 c k1, .slice x2 msl k2] 61, true⟩ :: ⟨b3, Ce [.slice (some ⟨bM, 0, none⟩) ds.length cm, .slice ai its.length ci, .slice ap ys.length cp] 29, true⟩ :: ⟨b2, Ce [.slice none 0 0, .slice none 0 0, .slice none 0 0] 29, true⟩ :: ⟨b1, Ce [.slice a0 x.ms.length c0, .slice a1 x.shs.length c1, .slice a2 x.its.length c2, .slice (some ⟨b, off, none⟩) x.ps.length c3] 24, true⟩ :: (t.2 ++ (NP ++ (NY ++ (NI ++ (⟨bM, Ce (ds.flatMap encMD ++ sM) 61, true⟩ :: (NX ++ [])))))))
      (I := fun t => OW 64 2 encSrc (.slice t.1.1 (Plt.bLeft i left).length t.1.2) (Plt.bLeft i left) t.2)
    · as_aux_lemma =>
      unfold Plt.bLeft
      by_cases hi3 : i < 3
      · rw [if_pos hi3]
        repeat' (first | ((with_reducible apply c_cond_t); exact rfl; exact decide_eq_true (by omega)) | (apply o_appH (enc := encSrc) (ys := [(((0 : Int), (i : Int) + 1))]); infer_instance; infer_instance; infer_instance; exact rfl; exact encSrc_len; exact encSrc_one; exact rfl; exact rfl; exact rfl; assumption; exact rL_; (exact fun w hw => SV.lit [(((0 : Int), (i : Int) + 1))] encSrc_len hw (by exact aT_) rfl rfl (by decide)); (first | decide | (constructor <;> (try simp only [List.length_cons, List.length_nil]) <;> omega) | (constructor <;> simp <;> omega)); intro a_ cp_ N_ hO_; have oN_ := hO_.own; (try simp only [List.nil_append, List.append_assoc] at hO_); (try simp only [List.append_eq, List.append_assoc, List.cons_append, List.nil_append])) | ((with_reducible first | apply o_move | apply o_assign | apply o_faddr0 | apply o_conv); exact rfl; exact rfl) | ((with_reducible first | apply o_add | apply o_sub | apply o_mul); exact rfl; exact rfl; exact rfl; (constructor <;> omega)) | ((with_reducible apply gdo_build); first | refine wo_build (h := ?_)) | ((with_reducible apply gdo_buildSlice); refine wo_buildSlice (h := fun _ => ?_)) | ((with_reducible first | apply c_seq | apply c_block | apply c_region | apply c_nil | apply c_ret | apply c_exit | apply c_skip)) | ((with_reducible first | apply e_then | apply e_then_ret | apply e_then_exit | apply e_in | apply e_in_ret | apply e_in_same)))
        refine l_meetD ((a_, cp_), N_) hO_ rfl ?_ ?_
        · exact fS_
        · exact hS_
      · rw [if_neg hi3]
        repeat' (first | ((with_reducible apply c_cond_f); exact rfl; exact decide_eq_false (by omega)) | ((with_reducible first | apply c_seq | apply c_block | apply c_region | apply c_nil | apply c_ret | apply c_exit | apply c_skip)) | ((with_reducible first | apply e_then | apply e_then_ret | apply e_then_exit | apply e_in | apply e_in_ret | apply e_in_same)))
        refine l_meetD ((al, cl), NL) hOL rfl ?_ ?_
        · exact fS_
        · exact hS_
    clear hOL oL
    rintro ⟨⟨al, cl⟩, NL⟩ hOL
    dsimp only at hOL ⊢
    have oL := hOL.own
    have hl2 : (Plt.bLeft i left).length ≤ 31 := by unfold Plt.bLeft; split <;> (try simp only [List.length_append, List.length_singleton]) <;> omega
    have hl3 : (Plt.bPick n 0 [] [] (Plt.bLeft i left)).2.length ≤ (Plt.bLeft i left).length := by
      have := Plt.bPick_len n (Plt.bLeft i left) 0 [] []
      simp at this; omega
    have hl4 : (Plt.bLeft i left).length ≤ 5 * i + 1 := by unfold Plt.bLeft; split <;> (try simp only [List.length_append, List.length_singleton]) <;> omega
    generalize Plt.bLeft i left = left2 at *
    repeat' (first | ((with_reducible first | apply o_move | apply o_assign | apply o_faddr0 | apply o_conv); exact rfl; exact rfl) | ((with_reducible apply o_len); infer_instance; exact rfl; exact rfl) | ((with_reducible first | apply c_seq | apply c_block | apply c_region | apply c_nil | apply c_ret | apply c_exit | apply c_skip)) | ((with_reducible first | apply e_then | apply e_then_ret | apply e_then_exit | apply e_in | apply e_in_ret | apply e_in_same)))
    apply c_loop (σ := Nat × (List (Int × Int) × (Option Addr × Nat) × List Ent) × (List (Int × Int) × (Option Addr × Nat) × List Ent)) (Fs := fun t => [(206, .int .i64 t.1), (205, .int .i64 left2.length), (204, .slice al left2.length cl), (15, .slice t.2.2.2.1.1 t.2.2.1.length t.2.2.2.1.2), (14, ptr b14), (13, ptr b13), (12, .int .i64 n), (11, .int .i64 i), (3, ptr b3), (2, ptr b2), (1, ptr b1)])
      (Ls := fun t => ⟨b14, Ce [.int .i64 (20 - i), .int .i64 mid, .int .i64 rel, .slice t.2.1.2.1.1 t.2.1.1.length t.2.1.2.1.2, .slice none 0 0, .slice none 0 0] 58, true⟩ :: ⟨b13, Ce [.int .i64 mid, .int .i64 msw, .int .i64 mra, .slice x1 c k1, .slice x2 msl k2] 61, true⟩ :: ⟨b3, Ce [.slice (some ⟨bM, 0, none⟩) ds.length cm, .slice ai its.length ci, .slice ap ys.length cp] 29, true⟩ :: ⟨b2, Ce [.slice none 0 0, .slice none 0 0, .slice none 0 0] 29, true⟩ :: ⟨b1, Ce [.slice a0 x.ms.length c0, .slice a1 x.shs.length c1, .slice a2 x.its.length c2, .slice (some ⟨b, off, none⟩) x.ps.length c3] 24, true⟩ :: (NL ++ (t.2.1.2.2 ++ (t.2.2.2.2 ++ (NP ++ (NY ++ (NI ++ (⟨bM, Ce (ds.flatMap encMD ++ sM) 61, true⟩ :: (NX ++ [])))))))))
      (I := fun t => (t.1 ≤ left2.length ∧ t.2.1.1.length + t.2.2.1.length = t.1) ∧ Plt.bPick n 0 [] [] left2 = Plt.bPick n t.1 t.2.1.1 t.2.2.1 (left2.drop t.1) ∧ OW 64 2 encSrc (.slice t.2.1.2.1.1 t.2.1.1.length t.2.1.2.1.2) t.2.1.1 t.2.1.2.2 ∧ OW 64 2 encSrc (.slice t.2.2.2.1.1 t.2.2.1.length t.2.2.2.1.2) t.2.2.1 t.2.2.2.2)
      (μ := fun t => left2.length - t.1) (s0 := (0, ([], (none, 0), []), ([], (none, 0), [])))
    · exact ⟨⟨Nat.zero_le _, rfl⟩, rfl, OW.nil, OW.nil⟩
    · exact fS_
    · exact hS_
    rintro ⟨k, ⟨fr, ⟨af, cf⟩, NF⟩, ⟨re, ⟨ar, cr⟩, NR⟩⟩ ⟨⟨hk, hfl⟩, hbp, hOF, hOR⟩
    dsimp only at hk hfl hbp hOF hOR ⊢
    have oF := hOF.own
    have oR := hOR.own
    by_cases hlt2 : k < left2.length
    · obtain ⟨⟨s1, s2⟩, hx⟩ : ∃ y, left2[k]? = some y := ⟨_, List.getElem?_eq_getElem hlt2⟩
      obtain ⟨bL, sL, rfl, rfl⟩ := OW.some hOL (by omega)
      have q2 : ∀ (j' : Nat) (u : Value), ([.int .i64 s1, .int .i64 s2] : List Value)[j']? = some u → (left2.flatMap encSrc ++ sL).toArray[0 + k * 2 + j']? = some u := (Pat.flat encSrc_len left2 sL).get hx
      rw [Plt.bPick_some hx] at hbp
      obtain ⟨sh, hsh⟩ : ∃ sh, (n : Int) / 2 ^ (k % 5) = sh := ⟨_, rfl⟩
      have hsh0 : 0 ≤ sh ∧ sh ≤ 255 := by
        rw [← hsh]
        exact ⟨Int.ediv_nonneg (by omega) (Int.le_of_lt (Int.pow_pos (by decide))), Int.le_trans (Int.ediv_le_self _ (by omega)) (by omega)⟩
      rw [hsh] at hbp
      have hsh2 : (n : Int) / 2 ^ ((k % 5 : Nat) : Int).toNat = sh := by rw [Int.toNat_natCast]; exact hsh
      simp only [List.cons_append, List.nil_append]
      by_cases hcc : (sh % 2 = 1 ∨ k = 0) ∧ fr.length < 5
      · rw [if_pos hcc] at hbp
        as_aux_lemma =>
          repeat' (first | ((with_reducible apply c_cond_t); exact rfl; exact decide_eq_true (by omega)) | ((with_reducible apply o_pick_t); exact rfl; exact decide_eq_true (by omega); exact rfl; exact rfl) | ((with_reducible apply o_pick_f); exact rfl; exact decide_eq_false (by omega); exact rfl; exact rfl) | ((with_reducible apply g_run); exact rfl; exact decide_eq_true (by omega)) | ((with_reducible apply g_run); exact rfl; exact decide_eq_false (by omega)) | ((with_reducible apply g_skip); exact rfl; exact decide_eq_true (by omega); exact rfl) | ((with_reducible apply o_remE (v := ((k % 5 : Nat) : Int))); exact rfl; exact rfl; omega; omega; exact rfl) | ((with_reducible apply o_shrE (v := sh)); exact rfl; exact rfl; exact hsh2; omega; exact rfl) | ((with_reducible apply o_andE (v := sh % 2)); exact rfl; exact rfl; exact rfl; omega; exact rfl) | (apply o_appH (enc := encSrc) (ys := [((s1, s2))]); infer_instance; infer_instance; infer_instance; exact rfl; exact encSrc_len; exact encSrc_one; exact rfl; exact rfl; exact rfl; assumption; exact rL_; (exact fun w hw => SV.lit [((s1, s2))] encSrc_len hw (by exact aT_) rfl rfl (by decide)); (first | decide | (constructor <;> (try simp only [List.length_cons, List.length_nil]) <;> omega) | (constructor <;> simp <;> omega)); intro a_ cp_ N_ hO_; have oN_ := hO_.own; (try simp only [List.nil_append, List.append_assoc] at hO_); (try simp only [List.append_eq, List.append_assoc, List.cons_append, List.nil_append])) | ((with_reducible first | apply o_move | apply o_assign | apply o_faddr0 | apply o_conv); exact rfl; exact rfl) | ((with_reducible apply gdo_load); first | refine wo_load (h := ?_) | refine wo_loadAll (h := ?_) | refine wo_loadC (h := ?_) | refine wo_ldV (h := ?_) | refine wo_ldF (h := ?_)) | ((with_reducible first | apply o_lss | apply o_eql | apply o_neq); exact rfl; exact rfl; exact rfl) | ((with_reducible first | apply o_add | apply o_sub | apply o_mul); exact rfl; exact rfl; exact rfl; (constructor <;> omega)) | ((with_reducible apply o_pick_t); exact rfl; exact tT_; exact rfl; exact rfl) | ((with_reducible apply o_alloc); exact rfl; intro _) | ((with_reducible apply gdo_store); first | refine wo_store1 (h := ?_) | refine wo_storeA (h := ?_)) | ((with_reducible apply o_len); infer_instance; exact rfl; exact rfl) | ((with_reducible apply gdo_buildSlice); refine wo_buildSlice (h := fun _ => ?_)) | ((with_reducible apply o_idx); infer_instance; infer_instance; exact rfl; exact rfl; (first | exact rfl | omega); exact rfl; (first | assumption | omega | decide)) | ((with_reducible first | apply g_run); exact rfl; exact gG_) | ((with_reducible first | apply c_seq | apply c_block | apply c_region | apply c_nil | apply c_ret | apply c_exit | apply c_skip)) | ((with_reducible first | apply e_then | apply e_then_ret | apply e_then_exit | apply e_in | apply e_in_ret | apply e_in_same)) | ((with_reducible apply g_split_d); exact rfl; intro hcond; rotate_left; intro hcond; rotate_left))
          all_goals try (exfalso; omega)
          all_goals
            refine l_again (k + 1, (fr ++ [(s1, s2)], (a_, cp_), N_), (re, (ar, cr), NR)) ⟨⟨by dsimp only; omega, show (fr ++ [(s1, s2)]).length + re.length = k + 1 from by rw [List.length_append, List.length_singleton]; omega⟩, hbp, hO_, hOR⟩ (by dsimp only; omega) ?_ ?_
            · exact fS_
            · (try simp only [List.cons_append, List.nil_append]); exact hS_
      · rw [if_neg hcc] at hbp
        as_aux_lemma =>
          repeat' (first | ((with_reducible apply c_cond_t); exact rfl; exact decide_eq_true (by omega)) | ((with_reducible apply c_cond_f); exact rfl; exact decide_eq_false (by omega)) | ((with_reducible apply o_pick_t); exact rfl; exact decide_eq_true (by omega); exact rfl; exact rfl) | ((with_reducible apply o_pick_f); exact rfl; exact decide_eq_false (by omega); exact rfl; exact rfl) | ((with_reducible apply g_skip); exact rfl; exact decide_eq_false (by omega); exact rfl) | ((with_reducible apply g_run); exact rfl; exact decide_eq_false (by omega)) | ((with_reducible apply g_skip); exact rfl; exact decide_eq_true (by omega); exact rfl) | ((with_reducible apply o_remE (v := ((k % 5 : Nat) : Int))); exact rfl; exact rfl; omega; omega; exact rfl) | ((with_reducible apply o_shrE (v := sh)); exact rfl; exact rfl; exact hsh2; omega; exact rfl) | ((with_reducible apply o_andE (v := sh % 2)); exact rfl; exact rfl; exact rfl; omega; exact rfl) | (apply o_appH (enc := encSrc) (ys := [((s1, s2))]); infer_instance; infer_instance; infer_instance; exact rfl; exact encSrc_len; exact encSrc_one; exact rfl; exact rfl; exact rfl; assumption; exact rL_; (exact fun w hw => SV.lit [((s1, s2))] encSrc_len hw (by exact aT_) rfl rfl (by decide)); (first | decide | (constructor <;> (try simp only [List.length_cons, List.length_nil]) <;> omega) | (constructor <;> simp <;> omega)); intro a_ cp_ N_ hO_; have oN_ := hO_.own; (try simp only [List.nil_append, List.append_assoc] at hO_); (try simp only [List.append_eq, List.append_assoc, List.cons_append, List.nil_append])) | ((with_reducible first | apply o_move | apply o_assign | apply o_faddr0 | apply o_conv); exact rfl; exact rfl) | ((with_reducible apply gdo_load); first | refine wo_load (h := ?_) | refine wo_loadAll (h := ?_) | refine wo_loadC (h := ?_) | refine wo_ldV (h := ?_) | refine wo_ldF (h := ?_)) | ((with_reducible first | apply o_lss | apply o_eql | apply o_neq); exact rfl; exact rfl; exact rfl) | ((with_reducible first | apply o_add | apply o_sub | apply o_mul); exact rfl; exact rfl; exact rfl; (constructor <;> omega)) | ((with_reducible apply o_pick_t); exact rfl; exact tT_; exact rfl; exact rfl) | ((with_reducible apply o_alloc); exact rfl; intro _) | ((with_reducible apply gdo_store); first | refine wo_store1 (h := ?_) | refine wo_storeA (h := ?_)) | ((with_reducible apply o_len); infer_instance; exact rfl; exact rfl) | ((with_reducible apply gdo_buildSlice); refine wo_buildSlice (h := fun _ => ?_)) | ((with_reducible apply o_idx); infer_instance; infer_instance; exact rfl; exact rfl; (first | exact rfl | omega); exact rfl; (first | assumption | omega | decide)) | ((with_reducible first | apply g_run); exact rfl; exact gG_) | ((with_reducible first | apply c_seq | apply c_block | apply c_region | apply c_nil | apply c_ret | apply c_exit | apply c_skip)) | ((with_reducible apply c_cond_f); exact rfl; exact fF_) | ((with_reducible first | apply e_then | apply e_then_ret | apply e_then_exit | apply e_in | apply e_in_ret | apply e_in_same)) | ((with_reducible apply g_split_d); exact rfl; intro hcond; rotate_left; intro hcond; rotate_left))
          all_goals try (exfalso; omega)
          all_goals
            refine l_again (k + 1, (fr, (af, cf), NF), (re ++ [(s1, s2)], (a_, cp_), N_)) ⟨⟨by dsimp only; omega, show fr.length + (re ++ [(s1, s2)]).length = k + 1 from by rw [List.length_append, List.length_singleton]; omega⟩, hbp, hOF, hO_⟩ (by dsimp only; omega) ?_ ?_
            · exact fS_
            · (try simp only [List.cons_append, List.nil_append]); exact hS_
    obtain rfl : k = left2.length := by omega
    rw [List.drop_length, Plt.bPick] at hbp
    rw [hbp] at hnext1 hnext2 hl3
    dsimp only at hnext1 hnext2 hl3
    clear hbp hOL
    have hrl : re.length ≤ 5 * i + 1 := by omega
    repeat' (first | ((with_reducible apply c_cond_f); exact rfl; exact decide_eq_false (by omega)) | ((with_reducible first | apply o_move | apply o_assign | apply o_faddr0 | apply o_conv); exact rfl; exact rfl) | ((with_reducible first | apply o_lss | apply o_eql | apply o_neq); exact rfl; exact rfl; exact rfl) | ((with_reducible first | apply c_seq | apply c_block | apply c_region | apply c_nil | apply c_ret | apply c_exit | apply c_skip)) | ((with_reducible first | apply e_then | apply e_then_ret | apply e_then_exit | apply e_in | apply e_in_ret | apply e_in_same)))
    apply c_loop (σ := Nat × (Option Addr × Nat) × List Ent) (Fs := fun t => [(18, .int .i64 t.1), (10, .slice ar re.length cr), (14, ptr b14), (13, ptr b13), (12, .int .i64 n), (11, .int .i64 i), (3, ptr b3), (2, ptr b2), (1, ptr b1)])
      (Ls := fun t => ⟨b14, Ce [.int .i64 (20 - i), .int .i64 mid, .int .i64 rel, .slice af fr.length cf, .slice t.2.1.1 (Plt.bTab n c t.1).length t.2.1.2, .slice none 0 0] 58, true⟩ :: ⟨b13, Ce [.int .i64 mid, .int .i64 msw, .int .i64 mra, .slice x1 c k1, .slice x2 msl k2] 61, true⟩ :: ⟨b3, Ce [.slice (some ⟨bM, 0, none⟩) ds.length cm, .slice ai its.length ci, .slice ap ys.length cp] 29, true⟩ :: ⟨b2, Ce [.slice none 0 0, .slice none 0 0, .slice none 0 0] 29, true⟩ :: ⟨b1, Ce [.slice a0 x.ms.length c0, .slice a1 x.shs.length c1, .slice a2 x.its.length c2, .slice (some ⟨b, off, none⟩) x.ps.length c3] 24, true⟩ :: (t.2.2 ++ (NF ++ (NR ++ (NP ++ (NY ++ (NI ++ (⟨bM, Ce (ds.flatMap encMD ++ sM) 61, true⟩ :: (NX ++ [])))))))))
      (I := fun t => (t.1 ≤ 8 ∧ (Plt.bTab n c t.1).length ≤ t.1) ∧ OW 76 2 encRow (.slice t.2.1.1 (Plt.bTab n c t.1).length t.2.1.2) (Plt.bTab n c t.1) t.2.2) (μ := fun t => 8 - t.1) (s0 := (0, (none, 0), []))
    · exact ⟨⟨Nat.zero_le _, Nat.le_refl _⟩, OW.nil⟩
    · exact fS_
    · exact hS_
    rintro ⟨k, ⟨at_, ct⟩, NT⟩ ⟨⟨hk, htl⟩, hOT⟩
    dsimp only at hk htl hOT ⊢
    have oT := hOT.own
    by_cases hlt2 : k < 8
    · have e1 := Plt.bTab_succ n c k
      by_cases hkn : k ≠ n % 16
      · rw [if_pos hkn] at e1
        have hrem : ((n : Int) + (k : Int)) % (c : Int) = (((n + k) % c : Nat) : Int) := by rw [Int.natCast_emod, Int.natCast_add]
        have htl2 : (Plt.bTab n c (k + 1)).length ≤ k + 1 := by rw [e1, List.length_append, List.length_singleton]; omega
        generalize (n + k) % c = z at *
        as_aux_lemma =>
          repeat' (first | ((with_reducible apply c_cond_t); exact rfl; exact decide_eq_true (by omega)) | ((with_reducible apply q_remE (v := (z : Int))); exact rfl; exact rfl; exact hrem; omega; exact rfl) | (apply o_appH (enc := encRow) (ys := [(⟨k, (z : Int)⟩ : Plt.Row)]); infer_instance; infer_instance; infer_instance; exact rfl; exact encRow_len; exact encRow_one; exact rfl; exact rfl; exact rfl; assumption; exact rL_; (exact fun w hw => SV.lit [(⟨k, (z : Int)⟩ : Plt.Row)] encRow_len hw (by exact aT_) rfl rfl (by decide)); (first | decide | (constructor <;> (try simp only [List.length_cons, List.length_nil]) <;> omega) | (constructor <;> simp <;> omega)); intro a_ cp_ N_ hO_; have oN_ := hO_.own; (try simp only [List.nil_append, List.append_assoc] at hO_); (try simp only [List.append_eq, List.append_assoc, List.cons_append, List.nil_append])) | ((with_reducible first | apply o_move | apply o_assign | apply o_faddr0 | apply o_conv); exact rfl; exact rfl) | ((with_reducible first | apply o_lss | apply o_eql | apply o_neq); exact rfl; exact rfl; exact rfl) | ((with_reducible first | apply o_add | apply o_sub | apply o_mul); exact rfl; exact rfl; exact rfl; (constructor <;> omega)) | ((with_reducible first | apply o_quo | apply o_rem); exact rfl; exact rfl; exact rfl; omega) | ((with_reducible apply gdo_store); first | refine wo_store1 (h := ?_) | refine wo_storeA (h := ?_)) | ((with_reducible first | apply c_seq | apply c_block | apply c_region | apply c_nil | apply c_ret | apply c_exit | apply c_skip)) | ((with_reducible first | apply e_then | apply e_then_ret | apply e_then_exit | apply e_in | apply e_in_ret | apply e_in_same)) | ((with_reducible apply c_regionD (id := 43) [] 12); kernel_rfl; kernel_rfl; simp only [List.take_succ_cons, List.take_zero, List.drop_succ_cons, List.drop_zero]) | ((with_reducible apply q_nil); try simp only [ents, List.cons_append, List.nil_append]) | ((with_reducible first | apply q_move | apply q_assign | apply q_faddr0); exact rfl; exact rfl) | ((with_reducible apply gdq_load); first | refine wq_load (h := ?_) | refine wq_loadAll (h := ?_) | refine wq_loadC (h := ?_) | refine wq_ldV (h := ?_) | refine wq_ldF (h := ?_)) | ((with_reducible first | apply q_add | apply q_sub | apply q_mul); exact rfl; exact rfl; exact rfl; (constructor <;> omega)) | ((with_reducible apply gdq_build); first | refine wq_build (h := ?_)) | ((with_reducible apply gdq_call_len); first | refine wq_len (h := ?_)) | ((with_reducible apply gdq_buildSlice); refine wq_buildSlice (h := fun _ => ?_)))
          rw [← e1] at hO_ ⊢
          refine l_again (k + 1, (a_, cp_), N_) ⟨⟨by dsimp only; omega, htl2⟩, hO_⟩ (by dsimp only; omega) ?_ ?_
          · exact fS_
          · exact hS_
      · rw [if_neg hkn, List.append_nil] at e1
        as_aux_lemma =>
          repeat' (first | ((with_reducible apply c_cond_t); exact rfl; exact decide_eq_true (by omega)) | ((with_reducible apply c_cond_f); exact rfl; exact decide_eq_false (by omega)) | ((with_reducible first | apply o_move | apply o_assign | apply o_faddr0 | apply o_conv); exact rfl; exact rfl) | ((with_reducible first | apply o_lss | apply o_eql | apply o_neq); exact rfl; exact rfl; exact rfl) | ((with_reducible first | apply o_add | apply o_sub | apply o_mul); exact rfl; exact rfl; exact rfl; (constructor <;> omega)) | ((with_reducible first | apply o_quo | apply o_rem); exact rfl; exact rfl; exact rfl; omega) | ((with_reducible first | apply c_seq | apply c_block | apply c_region | apply c_nil | apply c_ret | apply c_exit | apply c_skip)) | ((with_reducible first | apply e_then | apply e_then_ret | apply e_then_exit | apply e_in | apply e_in_ret | apply e_in_same)))
          refine l_again (k + 1, (at_, ct), NT) ⟨⟨by dsimp only; omega, by dsimp only; rw [e1]; omega⟩, by dsimp only; rw [e1]; exact hOT⟩ (by dsimp only; omega) ?_ ?_
          · exact fS_
          · (try dsimp only); rw [e1]; exact hS_
    obtain rfl : k = 8 := by omega
    repeat' (first | ((with_reducible apply c_cond_f); exact rfl; exact decide_eq_false (by omega)) | ((with_reducible first | apply o_move | apply o_assign | apply o_faddr0 | apply o_conv); exact rfl; exact rfl) | ((with_reducible apply gdo_load); first | refine wo_load (h := ?_) | refine wo_loadAll (h := ?_) | refine wo_loadC (h := ?_) | refine wo_ldV (h := ?_) | refine wo_ldF (h := ?_)) | ((with_reducible first | apply o_lss | apply o_eql | apply o_neq); exact rfl; exact rfl; exact rfl) | ((with_reducible apply o_len); infer_instance; exact rfl; exact rfl) | ((with_reducible first | apply c_seq | apply c_block | apply c_region | apply c_nil | apply c_ret | apply c_exit | apply c_skip)) | ((with_reducible first | apply e_then | apply e_then_ret | apply e_then_exit | apply e_in | apply e_in_ret | apply e_in_same)))
    apply c_loop (σ := Nat × (Option Addr × Nat) × List Ent) (Fs := fun t => [(264, .int .i64 t.1), (263, .int .i64 its.length), (10, .slice ar re.length cr), (14, ptr b14), (13, ptr b13), (12, .int .i64 n), (11, .int .i64 i), (3, ptr b3), (2, ptr b2), (1, ptr b1)])
      (Ls := fun t => ⟨b14, Ce [.int .i64 (20 - i), .int .i64 mid, .int .i64 rel, .slice af fr.length cf, .slice at_ (Plt.bTab n c 8).length ct, .slice t.2.1.1 (Plt.bUn its n i t.1).length t.2.1.2] 58, true⟩ :: ⟨b13, Ce [.int .i64 mid, .int .i64 msw, .int .i64 mra, .slice x1 c k1, .slice x2 msl k2] 61, true⟩ :: ⟨b3, Ce [.slice (some ⟨bM, 0, none⟩) ds.length cm, .slice ai its.length ci, .slice ap ys.length cp] 29, true⟩ :: ⟨b2, Ce [.slice none 0 0, .slice none 0 0, .slice none 0 0] 29, true⟩ :: ⟨b1, Ce [.slice a0 x.ms.length c0, .slice a1 x.shs.length c1, .slice a2 x.its.length c2, .slice (some ⟨b, off, none⟩) x.ps.length c3] 24, true⟩ :: (t.2.2 ++ (NT ++ (NF ++ (NR ++ (NP ++ (NY ++ (NI ++ (⟨bM, Ce (ds.flatMap encMD ++ sM) 61, true⟩ :: (NX ++ []))))))))))
      (I := fun t => (t.1 ≤ its.length ∧ (Plt.bUn its n i t.1).length ≤ t.1) ∧ OW 3 1 encI (.slice t.2.1.1 (Plt.bUn its n i t.1).length t.2.1.2) (Plt.bUn its n i t.1) t.2.2) (μ := fun t => its.length - t.1) (s0 := (0, (none, 0), []))
    · exact ⟨⟨Nat.zero_le _, Nat.le_refl _⟩, OW.nil⟩
    · exact fS_
    · exact hS_
    rintro ⟨k, ⟨au, cu⟩, NU⟩ ⟨⟨hk2, hul⟩, hOU⟩
    dsimp only at hk2 hul hOU ⊢
    have oU := hOU.own
    by_cases hlt3 : k < its.length
    · have e1 := Plt.bUn_succ its n i k
      have hkn : k * n ≤ 40 * 255 := Nat.mul_le_mul (by omega) (by omega)
      have hkn2 : (k : Int) * (n : Int) = ((k * n : Nat) : Int) := by rw [Int.natCast_mul]
      generalize k * n = kn at *
      by_cases hc10 : (kn + i) % 11 = 10
      · rw [if_pos hc10] at e1
        obtain ⟨⟨xi, xs, xb⟩, hx⟩ : ∃ y, its[k]? = some y := ⟨_, List.getElem?_eq_getElem hlt3⟩
        rw [show (its.getD k ⟨0, 0, 0⟩).id = xi from by simp [List.getD_eq_getElem?_getD, hx]] at e1
        have hul2 : (Plt.bUn its n i (k + 1)).length ≤ k + 1 := by rw [e1, List.length_append, List.length_singleton]; omega
        obtain ⟨bI, sI, rfl, rfl⟩ := OW.some hOI (by omega)
        have q2 : ∀ (j' : Nat) (u : Value), ([.int .i64 xi, .int .i64 xs, .int .i64 xb] : List Value)[j']? = some u → (its.flatMap encItem ++ sI).toArray[0 + k * 3 + j']? = some u := (Pat.flat encItem_len its sI).get hx
        simp only [List.cons_append, List.nil_append]
        as_aux_lemma =>
          repeat' (first | ((with_reducible apply c_cond_t); exact rfl; exact decide_eq_true (by omega)) | ((with_reducible apply o_mulE (v := (kn : Int))); exact rfl; exact rfl; exact hkn2; omega; exact rfl) | (apply o_appH (enc := encI) (ys := [(xi)]); infer_instance; infer_instance; infer_instance; exact rfl; exact encI_len; exact encI_one; exact rfl; exact rfl; exact rfl; assumption; exact rL_; (exact fun w hw => SV.lit [(xi)] encI_len hw (by exact aT_) rfl rfl (by decide)); (first | decide | (constructor <;> (try simp only [List.length_cons, List.length_nil]) <;> omega) | (constructor <;> simp <;> omega)); intro a_ cp_ N_ hO_; have oN_ := hO_.own; (try simp only [List.nil_append, List.append_assoc] at hO_); (try simp only [List.append_eq, List.append_assoc, List.cons_append, List.nil_append])) | ((with_reducible first | apply o_move | apply o_assign | apply o_faddr0 | apply o_conv); exact rfl; exact rfl) | ((with_reducible first | apply o_lss | apply o_eql | apply o_neq); exact rfl; exact rfl; exact rfl) | ((with_reducible first | apply o_add | apply o_sub | apply o_mul); exact rfl; exact rfl; exact rfl; (constructor <;> omega)) | ((with_reducible first | apply o_quo | apply o_rem); exact rfl; exact rfl; exact rfl; omega) | ((with_reducible apply gdo_store); first | refine wo_store1 (h := ?_) | refine wo_storeA (h := ?_)) | ((with_reducible first | apply c_seq | apply c_block | apply c_region | apply c_nil | apply c_ret | apply c_exit | apply c_skip)) | ((with_reducible first | apply e_then | apply e_then_ret | apply e_then_exit | apply e_in | apply e_in_ret | apply e_in_same)) | ((with_reducible apply c_regionD (id := 48) [] 9); kernel_rfl; kernel_rfl; simp only [List.take_succ_cons, List.take_zero, List.drop_succ_cons, List.drop_zero]) | ((with_reducible apply q_nil); try simp only [ents, List.cons_append, List.nil_append]) | ((with_reducible first | apply q_move | apply q_assign | apply q_faddr0); exact rfl; exact rfl) | ((with_reducible apply q_faddr); exact rfl; exact rfl) | ((with_reducible apply gdq_load); first | refine wq_load (h := ?_) | refine wq_loadAll (h := ?_) | refine wq_loadC (h := ?_) | refine wq_ldV (h := ?_) | refine wq_ldF (h := ?_)) | ((with_reducible apply q_idx); infer_instance; infer_instance; exact rfl; exact rfl; (first | exact rfl | omega); exact rfl; (first | assumption | omega | decide)) | ((with_reducible apply gdq_buildSlice); refine wq_buildSlice (h := fun _ => ?_)))
          rw [← e1] at hO_ ⊢
          refine l_again (k + 1, (a_, cp_), N_) ⟨⟨by dsimp only; omega, hul2⟩, hO_⟩ (by dsimp only; omega) ?_ ?_
          · exact fS_
          · (try simp only [List.cons_append, List.nil_append]); exact hS_
      · rw [if_neg hc10, List.append_nil] at e1
        as_aux_lemma =>
          repeat' (first | ((with_reducible apply c_cond_t); exact rfl; exact decide_eq_true (by omega)) | ((with_reducible apply c_cond_f); exact rfl; exact decide_eq_false (by omega)) | ((with_reducible apply o_mulE (v := (kn : Int))); exact rfl; exact rfl; exact hkn2; omega; exact rfl) | ((with_reducible first | apply o_move | apply o_assign | apply o_faddr0 | apply o_conv); exact rfl; exact rfl) | ((with_reducible first | apply o_lss | apply o_eql | apply o_neq); exact rfl; exact rfl; exact rfl) | ((with_reducible first | apply o_add | apply o_sub | apply o_mul); exact rfl; exact rfl; exact rfl; (constructor <;> omega)) | ((with_reducible first | apply o_quo | apply o_rem); exact rfl; exact rfl; exact rfl; omega) | ((with_reducible first | apply c_seq | apply c_block | apply c_region | apply c_nil | apply c_ret | apply c_exit | apply c_skip)) | ((with_reducible first | apply e_then | apply e_then_ret | apply e_then_exit | apply e_in | apply e_in_ret | apply e_in_same)))
          refine l_again (k + 1, (au, cu), NU) ⟨⟨by dsimp only; omega, by dsimp only; rw [e1]; omega⟩, by dsimp only; rw [e1]; exact hOU⟩ (by dsimp only; omega) ?_ ?_
          · exact fS_
          · (try dsimp only); rw [e1]; exact hS_
    obtain rfl : k = its.length := by omega
    repeat' (first | ((with_reducible apply c_cond_f); exact rfl; exact decide_eq_false (by omega)) | ((with_reducible first | apply o_move | apply o_assign | apply o_faddr0 | apply o_conv); exact rfl; exact rfl) | ((with_reducible apply gdo_load); first | refine wo_load (h := ?_) | refine wo_loadAll (h := ?_) | refine wo_loadC (h := ?_) | refine wo_ldV (h := ?_) | refine wo_ldF (h := ?_)) | ((with_reducible first | apply o_lss | apply o_eql | apply o_neq); exact rfl; exact rfl; exact rfl) | ((with_reducible apply o_len); infer_instance; exact rfl; exact rfl) | ((with_reducible first | apply c_seq | apply c_block | apply c_region | apply c_nil | apply c_ret | apply c_exit | apply c_skip)) | ((with_reducible first | apply e_then | apply e_then_ret | apply e_then_exit | apply e_in | apply e_in_ret | apply e_in_same)))
    apply c_loop (σ := Nat × (Option Addr × Nat) × List Ent) (Fs := fun t => [(289, .int .i64 t.1), (288, .int .i64 c), (10, .slice t.2.1.1 (re ++ Plt.bSrcs (20 - i) t.1).length t.2.1.2), (14, ptr b14), (13, ptr b13), (12, .int .i64 n), (11, .int .i64 i), (3, ptr b3), (2, ptr b2), (1, ptr b1)])
      (Ls := fun t => ⟨b14, Ce [.int .i64 (20 - i), .int .i64 mid, .int .i64 rel, .slice af fr.length cf, .slice at_ (Plt.bTab n c 8).length ct, .slice au (Plt.bUn its n i its.length).length cu] 58, true⟩ :: ⟨b13, Ce [.int .i64 mid, .int .i64 msw, .int .i64 mra, .slice x1 c k1, .slice x2 msl k2] 61, true⟩ :: ⟨b3, Ce [.slice (some ⟨bM, 0, none⟩) ds.length cm, .slice ai its.length ci, .slice ap ys.length cp] 29, true⟩ :: ⟨b2, Ce [.slice none 0 0, .slice none 0 0, .slice none 0 0] 29, true⟩ :: ⟨b1, Ce [.slice a0 x.ms.length c0, .slice a1 x.shs.length c1, .slice a2 x.its.length c2, .slice (some ⟨b, off, none⟩) x.ps.length c3] 24, true⟩ :: (t.2.2 ++ (NU ++ (NT ++ (NF ++ (NP ++ (NY ++ (NI ++ (⟨bM, Ce (ds.flatMap encMD ++ sM) 61, true⟩ :: (NX ++ []))))))))))
      (I := fun t => (t.1 ≤ c ∧ (re ++ Plt.bSrcs (20 - i) t.1).length = re.length + t.1) ∧ OW 64 2 encSrc (.slice t.2.1.1 (re ++ Plt.bSrcs (20 - i) t.1).length t.2.1.2) (re ++ Plt.bSrcs (20 - i) t.1) t.2.2) (μ := fun t => c - t.1) (s0 := (0, (ar, cr), NR))
    · exact ⟨⟨Nat.zero_le _, by simp [Plt.bSrcs]⟩, by dsimp only; rw [show Plt.bSrcs (20 - i) 0 = [] from rfl, List.append_nil]; exact hOR⟩
    · (try dsimp only); rw [show Plt.bSrcs (20 - i) 0 = [] from rfl, List.append_nil]; exact fS_
    · exact hS_
    rintro ⟨k, ⟨ar2, cr2⟩, NR2⟩ ⟨⟨hk3, hrl3⟩, hOR2⟩
    dsimp only at hk3 hrl3 hOR2 ⊢
    have oR2 := hOR2.own
    by_cases hlt4 : k < c
    · have e1 : re ++ Plt.bSrcs (20 - i) (k + 1) = (re ++ Plt.bSrcs (20 - i) k) ++ [((20 - i : Int), (k : Int))] := by rw [Plt.bSrcs_succ, List.append_assoc]
      have hrl4 : (re ++ Plt.bSrcs (20 - i) (k + 1)).length = re.length + (k + 1) := by rw [e1, List.length_append, List.length_singleton]; omega
      generalize re ++ Plt.bSrcs (20 - i) k = RB at *
      as_aux_lemma =>
        repeat' (first | ((with_reducible apply c_cond_t); exact rfl; exact decide_eq_true (by omega)) | (apply o_appH (enc := encSrc) (ys := [(((20 - i : Int), (k : Int)))]); infer_instance; infer_instance; infer_instance; exact rfl; exact encSrc_len; exact encSrc_one; exact rfl; exact rfl; exact rfl; assumption; exact rL_; (exact fun w hw => SV.lit [(((20 - i : Int), (k : Int)))] encSrc_len hw (by exact aT_) rfl rfl (by decide)); (first | decide | (constructor <;> (try simp only [List.length_cons, List.length_nil]) <;> omega) | (constructor <;> simp <;> omega)); intro a_ cp_ N_ hO_; have oN_ := hO_.own; (try simp only [List.nil_append, List.append_assoc] at hO_); (try simp only [List.append_eq, List.append_assoc, List.cons_append, List.nil_append])) | ((with_reducible first | apply o_move | apply o_assign | apply o_faddr0 | apply o_conv); exact rfl; exact rfl) | ((with_reducible apply gdo_load); first | refine wo_load (h := ?_) | refine wo_loadAll (h := ?_) | refine wo_loadC (h := ?_) | refine wo_ldV (h := ?_) | refine wo_ldF (h := ?_)) | ((with_reducible first | apply o_lss | apply o_eql | apply o_neq); exact rfl; exact rfl; exact rfl) | ((with_reducible first | apply o_add | apply o_sub | apply o_mul); exact rfl; exact rfl; exact rfl; (constructor <;> omega)) | ((with_reducible apply gdo_build); first | refine wo_build (h := ?_)) | ((with_reducible apply gdo_buildSlice); refine wo_buildSlice (h := fun _ => ?_)) | ((with_reducible first | apply c_seq | apply c_block | apply c_region | apply c_nil | apply c_ret | apply c_exit | apply c_skip)) | ((with_reducible first | apply e_then | apply e_then_ret | apply e_then_exit | apply e_in | apply e_in_ret | apply e_in_same)))
        rw [← e1] at hO_ ⊢
        refine l_again (k + 1, (a_, cp_), N_) ⟨⟨by dsimp only; omega, hrl4⟩, hO_⟩ (by dsimp only; omega) ?_ ?_
        · exact fS_
        · exact hS_
    obtain rfl : k = c := by omega
    have hny : Shw (NF ++ (NT ++ (NU ++ NY))) (fun w => ∀ (j : Nat) (d : PD) (y : Plt.Pass), (ys ++ [(⟨20 - i, mid, rel, (af, fr.length, cf), (at_, (Plt.bTab n k 8).length, ct), (au, (Plt.bUn its n i its.length).length, cu)⟩ : PD)])[j]? = some d → (Plt.bAt ms its x.ps (i + 1)).2[j]? = some y → PassV w d y) := by
      rw [hnext2]
      intro w0 w1 L L0 hr hw j d y hd hy
      by_cases hj : j < ys.length
      · rw [List.getElem?_append_left hj] at hd
        rw [List.getElem?_append_left (by omega)] at hy
        exact (Shw.right (Shw.right (Shw.right hPY))) w0 w1 L L0 hr hw j d y hd hy
      · have : j = ys.length := by
          have h := (List.getElem?_eq_some_iff.1 hd).1
          rw [List.length_append, List.length_singleton] at h
          omega
        subst this
        rw [List.getElem?_append_right (Nat.le_refl _), Nat.sub_self] at hd
        rw [List.getElem?_append_right (by omega), hyl, hpsl, Nat.sub_self] at hy
        cases hd; cases hy
        exact ⟨rfl, rfl, rfl, (Shw.left (Shw.ow encSrc_len hOF)) w0 w1 L L0 hr hw, (Shw.right (Shw.left (Shw.ow encRow_len hOT))) w0 w1 L L0 hr hw, (Shw.right (Shw.right (Shw.left (Shw.ow encI_len hOU)))) w0 w1 L L0 hr hw⟩
    rw [← hnext1] at hOR2 hrl3 ⊢
    have hnl : (Plt.bAt ms its x.ps (i + 1)).1.length ≤ 5 * (i + 1) := by omega
    as_aux_lemma =>
      repeat' (first | ((with_reducible apply c_cond_f); exact rfl; exact decide_eq_false (by omega)) | (apply o_appH (enc := encPD) (ys := [(⟨20 - i, mid, rel, (af, fr.length, cf), (at_, (Plt.bTab n k 8).length, ct), (au, (Plt.bUn its n i its.length).length, cu)⟩ : PD)]); infer_instance; infer_instance; infer_instance; exact rfl; exact encPD_len; exact encPD_one; exact rfl; exact rfl; exact rfl; assumption; exact rL_; (exact fun w hw => SV.lit [(⟨20 - i, mid, rel, (af, fr.length, cf), (at_, (Plt.bTab n k 8).length, ct), (au, (Plt.bUn its n i its.length).length, cu)⟩ : PD)] encPD_len hw (by exact aT_) rfl rfl (by decide)); (first | decide | (constructor <;> (try simp only [List.length_cons, List.length_nil]) <;> omega) | (constructor <;> simp <;> omega)); intro a_ cp_ N_ hO_; have oN_ := hO_.own; (try simp only [List.nil_append, List.append_assoc] at hO_); (try simp only [List.append_eq, List.append_assoc, List.cons_append, List.nil_append])) | ((with_reducible first | apply o_move | apply o_assign | apply o_faddr0 | apply o_conv); exact rfl; exact rfl) | ((with_reducible apply gdo_load); first | refine wo_load (h := ?_) | refine wo_loadAll (h := ?_) | refine wo_loadC (h := ?_) | refine wo_ldV (h := ?_) | refine wo_ldF (h := ?_)) | ((with_reducible first | apply o_lss | apply o_eql | apply o_neq); exact rfl; exact rfl; exact rfl) | ((with_reducible first | apply o_add | apply o_sub | apply o_mul); exact rfl; exact rfl; exact rfl; (constructor <;> omega)) | ((with_reducible apply gdo_store); first | refine wo_store1 (h := ?_) | refine wo_storeA (h := ?_)) | ((with_reducible apply gdo_buildSlice); refine wo_buildSlice (h := fun _ => ?_)) | ((with_reducible first | apply c_seq | apply c_block | apply c_region | apply c_nil | apply c_ret | apply c_exit | apply c_skip)) | ((with_reducible first | apply e_then | apply e_then_ret | apply e_then_exit | apply e_in | apply e_in_ret | apply e_in_same)))
      refine l_again (i + 1, ((ar2, cr2), NR2), ((a_, cp_), ys ++ [(⟨20 - i, mid, rel, (af, fr.length, cf), (at_, (Plt.bTab n k 8).length, ct), (au, (Plt.bUn its n i its.length).length, cu)⟩ : PD)], N_), NF ++ (NT ++ (NU ++ NY))) ⟨⟨by dsimp only; omega, hnl⟩, hOR2, by simp [hyl], hO_, own_app oF (own_app oT (own_app oU oY)), hny⟩ (by dsimp only; omega) ?_ ?_
      · exact fS_
      · simp only [List.append_assoc]; exact hS_
  have hpl : i = min x.ps.length 6 := by omega
  subst hpl
  have hbl : (Plt.built x) = ⟨ms, its, (Plt.bAt ms its x.ps (min x.ps.length 6)).2⟩ := by unfold Plt.built; rw [hM, hI]
  rw [hbl]
  have hbpl := Plt.bAt_len ms its x.ps (min x.ps.length 6)
  repeat' (first | ((with_reducible apply c_cond_f); exact rfl; exact decide_eq_false (by omega)) | ((with_reducible apply o_pick_t); exact rfl; exact decide_eq_true (by omega); exact rfl; exact rfl) | ((with_reducible apply o_pick_f); exact rfl; exact decide_eq_false (by omega); exact rfl; exact rfl) | ((with_reducible apply g_run); exact rfl; exact decide_eq_true (by omega)) | ((with_reducible apply g_skip); exact rfl; exact decide_eq_false (by omega); exact rfl) | ((with_reducible first | apply o_move | apply o_assign | apply o_faddr0 | apply o_conv); exact rfl; exact rfl) | ((with_reducible apply gdo_load); first | refine wo_load (h := ?_) | refine wo_loadAll (h := ?_) | refine wo_loadC (h := ?_) | refine wo_ldV (h := ?_) | refine wo_ldF (h := ?_)) | ((with_reducible first | apply o_lss | apply o_eql | apply o_neq); exact rfl; exact rfl; exact rfl) | ((with_reducible apply gdo_store); first | refine wo_store1 (h := ?_) | refine wo_storeA (h := ?_)) | ((with_reducible apply o_len); infer_instance; exact rfl; exact rfl) | ((with_reducible first | apply c_seq | apply c_block | apply c_region | apply c_nil | apply c_ret | apply c_exit | apply c_skip)) | ((with_reducible apply c_cond_f); exact rfl; exact fF_) | ((with_reducible first | apply e_then | apply e_then_ret | apply e_then_exit | apply e_in | apply e_in_ret | apply e_in_same)) | ((with_reducible apply g_split_d); exact rfl; intro hcond; rotate_left; intro hcond; rotate_left))
  all_goals
    apply r_body; apply res1 Try.results10; exact rV_; intro w' hw
    have hyl2 : ys.length = (Plt.bAt ms its x.ps (min x.ps.length 6)).2.length := by rw [hyl, hbpl]
    rw [hyl2] at hOP
    rw [hdl] at hOM
    exact ⟨_, NM ++ (NI ++ (NP ++ (NY ++ NX))), rfl, ⟨am, cm, ai, ci, ap, cp, ds, ys, NM, NI, NP, NY ++ NX, by rw [hdl, hyl2], ⟨hOM, hOI, hOP⟩, ⟨rfl, own_app oY oX⟩, ⟨hdl, hyl2⟩, Shw.right hMX, Shw.left hPY⟩, hw.sub (by exact hS_), own_app oM (own_app oI (own_app oP (own_app oY oX)))⟩
end Go.Proofs.Ytkhaemjoekfhiaa
namespace Go.Sx.Plt
def minI (l : List (Int × Int)) (q : Int) : Int := match minuteF l q with
  | some m => m
  | none => -1
/-- How often an item is in one of the stackers. -/
def inSt (x nu : Int) (l : List (List Int)) : Int := if 0 ≤ nu then ((l.getD nu.toNat []).count x : Int) else 0
def allN (r : Run) (x : Int) (n : Nat) : Int := (r.res.over.count x : Int) + (r.res.rej.count x : Int) + (((r.res.stackers.take n).flatten.count x : Nat) : Int)
def hereF (r : Run) (x kd nu : Int) : Int := if kd = 2 then inSt x nu r.res.stackers else if kd = 3 then (r.res.over.count x : Int) else if kd = 4 then (r.res.rej.count x : Int) else 0
/-- What holds says of a place. -/
def holdsF (r : Run) (x kd ps nu : Int) : Prop := (allN r x r.res.stackers.length = 1 ∧ hereF r x kd nu = 1) ∧ ps = r.pass ∧ (nu = 0 ∨ kd = 2)
instance (r : Run) (x kd ps nu : Int) : Decidable (holdsF r x kd ps nu) := by unfold holdsF; infer_instance
end Go.Sx.Plt
namespace Go.Proofs.Ytkhaemjoekfhiaa
open Go Go.Sx Go.RowKit
attribute [local irreducible] WL WC WQ WR WB WF QB St Exit.then Exit.inBlock Exit.noGoto bodyPost roundPost beginK YR RG BM Calls B AgainD MeetD
/-! ## the minute of an item, and where a run holds it -/
end Go.Proofs.Ytkhaemjoekfhiaa
