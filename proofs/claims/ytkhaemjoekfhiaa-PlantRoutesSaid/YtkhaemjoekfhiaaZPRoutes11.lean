/- A part of the proofs of this seat: a small logic of walks, plain laws, and what some of the program's functions compute, shown by walks through their code. Conditions: the hypotheses that each theorem names. -/
import Derived.Test.YtkhaemjoekfhiaaZPRoutes3
import Derived.Test.YtkhaemjoekfhiaaZPRoutes4
import Derived.Test.YtkhaemjoekfhiaaZPRoutes2
set_option linter.unusedSimpArgs false
set_option linter.unusedVariables false
set_option linter.unusedSectionVars false
namespace Go.Proofs.Ytkhaemjoekfhiaa
open Go Go.Sx Go.RowKit
attribute [local irreducible] WL WC WQ WR St Exit.then Exit.inBlock Exit.noGoto bodyPost roundPost beginK YR RG BM Calls B
/-! ## machines, routes, loads -/
def encStop (s : Seq.Stop) : List Value := [.int .i64 s.id, .int .i64 s.vol]
theorem encStop_len : ∀ x, (encStop x).length = 2 := fun _ => rfl
theorem encStop_one : ∀ x, (encStop x).all (·.oneCell') = true := fun _ => rfl
def encSeat (s : Seq.Seat) : List Value := [.int .i64 s.stop, .int .i64 s.vol, .int .i64 s.first, .int .i64 s.second]
theorem encSeat_len : ∀ x, (encSeat x).length = 4 := fun _ => rfl
theorem encSeat_one : ∀ x, (encSeat x).all (·.oneCell') = true := fun _ => rfl
theorem smachine_calls {v : Value} {caps : List Int} (w : World) (h : SV w 1 encI v caps) : Calls Try.prog 37 #[v] w fun e w' => e = .returned (.bool (B (Seq.machineOk caps))) ∧ Below w.heap.size w w' := by
  obtain ⟨a0, ca, rfl, hca, hop⟩ := h.open
  by_cases hl : 1 ≤ caps.length ∧ caps.length ≤ 64
  case neg =>
    rw [B_false (fun h => hl h.1)]
    refine f_enter1 Try.func37 rfl Try.ntmps37 rfl (Rep.start w) ?_
    repeat' (first | ((with_reducible first | apply o_move | apply o_assign); exact rfl; exact rfl) | ((with_reducible first | apply o_lss | apply o_gtr); exact rfl; exact rfl; exact rfl) | ((with_reducible apply o_pick_t); exact rfl; exact tT_; exact rfl; exact rfl) | ((with_reducible apply o_pick_f); exact rfl; exact fF_; exact rfl; exact rfl) | ((with_reducible apply o_len); infer_instance; exact rfl; exact rfl) | ((with_reducible first | apply g_run); exact rfl; exact gG_) | ((with_reducible apply g_skip); exact rfl; exact gG_; exact rfl) | ((with_reducible first | apply c_seq | apply c_block | apply c_region | apply c_nil | apply c_ret | apply c_exit | apply c_skip)) | ((with_reducible apply c_cond_t); exact rfl; exact tT_) | ((with_reducible first | apply e_then | apply e_then_ret | apply e_then_exit | apply e_in | apply e_in_ret | apply e_in_same)) | ((with_reducible apply g_split_d); exact rfl; intro hcond; rotate_left; intro hcond; rotate_left))
    all_goals first
      | (exfalso; omega)
      | (apply r_body; apply res1 Try.results37; exact rV_; intro w' hw; exact ⟨rfl, hw.below (by simp)⟩)
  refine f_enter1 Try.func37 rfl Try.ntmps37 rfl (Rep.start w) ?_
  repeat' (first | ((with_reducible first | apply o_move | apply o_assign); exact rfl; exact rfl) | ((with_reducible first | apply o_lss | apply o_gtr); exact rfl; exact rfl; exact rfl) | ((with_reducible apply o_pick_f); exact rfl; exact fF_; exact rfl; exact rfl) | ((with_reducible apply o_len); infer_instance; exact rfl; exact rfl) | ((with_reducible first | apply g_run); exact rfl; exact gG_) | ((with_reducible first | apply c_seq | apply c_block | apply c_region | apply c_nil | apply c_ret | apply c_exit | apply c_skip)) | ((with_reducible apply c_cond_f); exact rfl; exact fF_) | ((with_reducible first | apply e_then | apply e_then_ret | apply e_then_exit | apply e_in | apply e_in_ret | apply e_in_same)))
  apply c_loop (σ := Nat) (Fs := fun i => [(15, .int .i64 i), (14, .int .i64 caps.length), (13, .slice a0 caps.length ca)])
    (Ls := fun i => []) (I := fun i => i ≤ caps.length ∧ ∀ c ∈ caps.take i, 1 ≤ c ∧ c ≤ 100000) (μ := fun i => caps.length - i) (s0 := 0)
  · exact ⟨Nat.zero_le _, by simp⟩
  · exact fS_
  · exact hS_
  rintro i ⟨hi, hin⟩
  by_cases hlt : i < caps.length
  · obtain ⟨c, hx⟩ : ∃ c, caps[i]? = some c := ⟨_, List.getElem?_eq_getElem hlt⟩
    obtain ⟨b, off, cc, e, fz, rfl, hk, hp⟩ := hop (by omega)
    have h1 := hp.one hx rfl
    by_cases hc : 1 ≤ c ∧ c ≤ 100000
    · repeat' (first | ((with_reducible first | apply o_move | apply o_assign); exact rfl; exact rfl) | ((with_reducible apply gdo_load); first | refine wo_load (h := ?_) | refine wo_loadAll (h := ?_) | refine wo_loadC (h := ?_) | refine wo_ldV (h := ?_) | refine wo_ldF (h := ?_)) | ((with_reducible first | apply o_lss | apply o_gtr); exact rfl; exact rfl; exact rfl) | ((with_reducible apply o_add); exact rfl; exact rfl; exact rfl; (constructor <;> omega)) | ((with_reducible apply o_pick_f); exact rfl; exact fF_; exact rfl; exact rfl) | ((with_reducible apply o_idx); infer_instance; infer_instance; exact rfl; exact rfl; (first | exact rfl | omega); exact rfl; (first | assumption | omega | decide)) | ((with_reducible first | apply g_run); exact rfl; exact gG_) | ((with_reducible first | apply c_seq | apply c_block | apply c_region | apply c_nil | apply c_ret | apply c_exit | apply c_skip)) | ((with_reducible apply c_cond_t); exact rfl; exact tT_) | ((with_reducible apply c_cond_f); exact rfl; exact fF_) | ((with_reducible first | apply e_then | apply e_then_ret | apply e_then_exit | apply e_in | apply e_in_ret | apply e_in_same)))
      refine l_again (i + 1) ⟨by omega, take_all hx hin hc⟩ (by omega) ?_ ?_
      · exact fS_
      · exact hS_
    · rw [B_false (fun h => hc (h.2 c (List.mem_of_getElem? hx)))]
      repeat' (first | ((with_reducible first | apply o_move | apply o_assign); exact rfl; exact rfl) | ((with_reducible apply gdo_load); first | refine wo_load (h := ?_) | refine wo_loadAll (h := ?_) | refine wo_loadC (h := ?_) | refine wo_ldV (h := ?_) | refine wo_ldF (h := ?_)) | ((with_reducible first | apply o_lss | apply o_gtr); exact rfl; exact rfl; exact rfl) | ((with_reducible apply o_pick_t); exact rfl; exact tT_; exact rfl; exact rfl) | ((with_reducible apply o_pick_f); exact rfl; exact fF_; exact rfl; exact rfl) | ((with_reducible apply o_idx); infer_instance; infer_instance; exact rfl; exact rfl; (first | exact rfl | omega); exact rfl; (first | assumption | omega | decide)) | ((with_reducible first | apply g_run); exact rfl; exact gG_) | ((with_reducible apply g_skip); exact rfl; exact gG_; exact rfl) | ((with_reducible first | apply c_seq | apply c_block | apply c_region | apply c_nil | apply c_ret | apply c_exit | apply c_skip)) | ((with_reducible apply c_cond_t); exact rfl; exact tT_) | ((with_reducible first | apply e_then | apply e_then_ret | apply e_then_exit | apply e_in | apply e_in_ret | apply e_in_same)) | ((with_reducible apply g_split_d); exact rfl; intro hcond; rotate_left; intro hcond; rotate_left))
      all_goals first
        | (exfalso; omega)
        | (apply r_body; apply res1 Try.results37; exact rV_; intro w' hw; exact ⟨rfl, hw.below (by simp)⟩)
  · rw [List.take_of_length_le (by omega)] at hin
    rw [B_true ⟨hl, hin⟩]
    repeat' (first | ((with_reducible first | apply o_move | apply o_assign); exact rfl; exact rfl) | ((with_reducible first | apply o_lss | apply o_gtr); exact rfl; exact rfl; exact rfl) | ((with_reducible first | apply c_seq | apply c_block | apply c_region | apply c_nil | apply c_ret | apply c_exit | apply c_skip)) | ((with_reducible apply c_cond_f); exact rfl; exact fF_) | ((with_reducible first | apply e_then | apply e_then_ret | apply e_then_exit | apply e_in | apply e_in_ret | apply e_in_same)))
    apply r_body; apply res1 Try.results37; exact rV_; intro w' hw
    exact ⟨rfl, hw.below (by simp)⟩
def atV : Option Nat → Value
  | some i => .tuple #[.int .i64 i, .bool true]
  | none => .tuple #[.int .i64 0, .bool false]
theorem wrong_calls {v : Value} {l : List Seq.Stop} (w : World) (h : SV w 2 encStop v l) : Calls Try.prog 38 #[v] w fun e w' => e = .returned (atV (Seq.wrongF [] 0 l)) ∧ Below w.heap.size w w' := by
  obtain ⟨a0, ca, rfl, hca, hop⟩ := h.open
  refine f_enter1 Try.func38 rfl Try.ntmps38 rfl (Rep.start w) ?_
  repeat' (first | ((with_reducible first | apply o_move | apply o_assign | apply o_faddr0); exact rfl; exact rfl) | ((with_reducible apply o_len); infer_instance; exact rfl; exact rfl) | ((with_reducible apply o_makeMap); infer_instance; exact rfl; exact rfl; intro _) | ((with_reducible first | apply c_seq | apply c_block | apply c_region | apply c_nil | apply c_ret | apply c_exit | apply c_skip)) | ((with_reducible first | apply e_then | apply e_then_ret | apply e_then_exit | apply e_in | apply e_in_ret | apply e_in_same)))
  rename_i bm
  apply c_loop (σ := Nat) (Fs := fun i => [(12, .int .i64 i), (11, .int .i64 l.length), (10, .slice a0 l.length ca), (4, .map (some bm))])
    (Ls := fun i => [⟨bm, MO (setM .i64 ((l.take i).map Seq.Stop.id)), true⟩]) (I := fun i => i ≤ l.length ∧ ((l.take i).map Seq.Stop.id).Nodup ∧ Seq.wrongF [] 0 l = Seq.wrongF ((l.take i).map Seq.Stop.id) i (l.drop i)) (μ := fun i => l.length - i) (s0 := 0)
  · exact ⟨Nat.zero_le _, by simp, by simp⟩
  · exact fS_
  · exact hS_
  rintro i ⟨hi, hnd, hw0⟩
  by_cases hlt : i < l.length
  · obtain ⟨s, hx⟩ : ∃ s, l[i]? = some s := ⟨_, List.getElem?_eq_getElem hlt⟩
    obtain ⟨b, off, cc, e, fz, rfl, hk, hp⟩ := hop (by omega)
    have h1 := hp.get hx
    rw [drop_at hx, Seq.wrongF] at hw0
    have e1 : (l.take (i + 1)).map Seq.Stop.id = (l.take i).map Seq.Stop.id ++ [s.id] := by rw [take_snoc hx]; simp
    by_cases hok : s.ok
    · have hok' := hok
      unfold Seq.Stop.ok at hok'
      by_cases hm : s.id ∈ (l.take i).map Seq.Stop.id
      · rw [if_neg (fun h => h.2 hm)] at hw0
        rw [hw0]
        repeat' (first | ((with_reducible first | apply o_move | apply o_assign | apply o_faddr0); exact rfl; exact rfl) | ((with_reducible apply gdo_load); first | refine wo_load (h := ?_) | refine wo_loadAll (h := ?_) | refine wo_loadC (h := ?_) | refine wo_ldV (h := ?_) | refine wo_ldF (h := ?_)) | ((with_reducible first | apply o_lss | apply o_gtr); exact rfl; exact rfl; exact rfl) | ((with_reducible apply o_pick_f); exact rfl; exact fF_; exact rfl; exact rfl) | ((with_reducible first | apply o_alloc | apply o_makeMap0); exact rfl; intro _) | ((with_reducible apply gdo_store); first | refine wo_store1 (h := ?_) | refine wo_storeA (h := ?_)) | ((with_reducible apply gdo_lookup); refine wo_lookS (h := ?_)) | ((with_reducible apply o_idx); infer_instance; infer_instance; exact rfl; exact rfl; (first | exact rfl | omega); exact rfl; (first | assumption | omega | decide)) | ((with_reducible first | apply g_run); exact rfl; exact gG_) | ((with_reducible first | apply c_seq | apply c_block | apply c_region | apply c_nil | apply c_ret | apply c_exit | apply c_skip)) | ((with_reducible apply c_cond_t); exact rfl; exact tT_) | ((with_reducible first | apply e_then | apply e_then_ret | apply e_then_exit | apply e_in | apply e_in_ret | apply e_in_same)))
        apply r_body; apply res2 Try.results38; exact rV_; exact rV_; intro w' hw
        exact ⟨rfl, hw.below (by simp)⟩
      · rw [if_pos ⟨hok, hm⟩] at hw0
        repeat' (first | ((with_reducible first | apply o_move | apply o_assign | apply o_faddr0); exact rfl; exact rfl) | ((with_reducible apply gdo_load); first | refine wo_load (h := ?_) | refine wo_loadAll (h := ?_) | refine wo_loadC (h := ?_) | refine wo_ldV (h := ?_) | refine wo_ldF (h := ?_)) | ((with_reducible first | apply o_lss | apply o_gtr); exact rfl; exact rfl; exact rfl) | ((with_reducible apply o_add); exact rfl; exact rfl; exact rfl; (constructor <;> omega)) | ((with_reducible apply o_pick_f); exact rfl; exact fF_; exact rfl; exact rfl) | ((with_reducible first | apply o_alloc | apply o_makeMap0); exact rfl; intro _) | ((with_reducible apply gdo_store); first | refine wo_store1 (h := ?_) | refine wo_storeA (h := ?_)) | ((with_reducible apply gdo_lookup); refine wo_lookS (h := ?_)) | ((with_reducible apply gdo_mapUpdate); refine wo_mapNewS (h := ?_)) | ((with_reducible apply o_idx); infer_instance; infer_instance; exact rfl; exact rfl; (first | exact rfl | omega); exact rfl; (first | assumption | omega | decide)) | ((with_reducible first | apply g_run); exact rfl; exact gG_) | ((with_reducible first | apply c_seq | apply c_block | apply c_region | apply c_nil | apply c_ret | apply c_exit | apply c_skip)) | ((with_reducible apply c_cond_t); exact rfl; exact tT_) | ((with_reducible apply c_cond_f); exact rfl; exact fF_) | ((with_reducible first | apply e_then | apply e_then_ret | apply e_then_exit | apply e_in | apply e_in_ret | apply e_in_same)))
        refine l_again (i + 1) ⟨by omega, ?_, ?_⟩ (by omega) ?_ ?_
        · rw [e1]
          rw [List.nodup_append]
          refine ⟨hnd, by simp, fun a ha b hb e => ?_⟩
          simp at hb; subst hb; subst e; exact hm ha
        · rw [e1]; exact hw0
        · exact fS_
        · simp only [e1]; exact hS_
    · rw [if_neg (fun h => hok h.1)] at hw0
      rw [hw0]
      unfold Seq.Stop.ok at hok
      repeat' (first | ((with_reducible first | apply o_move | apply o_assign | apply o_faddr0); exact rfl; exact rfl) | ((with_reducible apply gdo_load); first | refine wo_load (h := ?_) | refine wo_loadAll (h := ?_) | refine wo_loadC (h := ?_) | refine wo_ldV (h := ?_) | refine wo_ldF (h := ?_)) | ((with_reducible first | apply o_lss | apply o_gtr); exact rfl; exact rfl; exact rfl) | ((with_reducible apply o_pick_t); exact rfl; exact tT_; exact rfl; exact rfl) | ((with_reducible apply o_pick_f); exact rfl; exact fF_; exact rfl; exact rfl) | ((with_reducible first | apply o_alloc | apply o_makeMap0); exact rfl; intro _) | ((with_reducible apply gdo_store); first | refine wo_store1 (h := ?_) | refine wo_storeA (h := ?_)) | ((with_reducible apply o_idx); infer_instance; infer_instance; exact rfl; exact rfl; (first | exact rfl | omega); exact rfl; (first | assumption | omega | decide)) | ((with_reducible first | apply g_run); exact rfl; exact gG_) | ((with_reducible apply g_skip); exact rfl; exact gG_; exact rfl) | ((with_reducible first | apply c_seq | apply c_block | apply c_region | apply c_nil | apply c_ret | apply c_exit | apply c_skip)) | ((with_reducible apply c_cond_t); exact rfl; exact tT_) | ((with_reducible first | apply e_then | apply e_then_ret | apply e_then_exit | apply e_in | apply e_in_ret | apply e_in_same)) | ((with_reducible apply g_split_d); exact rfl; intro hcond; rotate_left; intro hcond; rotate_left))
      all_goals first
        | (exfalso; omega)
        | (apply r_body; apply res2 Try.results38; exact rV_; exact rV_; intro w' hw; exact ⟨rfl, hw.below (by simp)⟩)
  · rw [List.drop_of_length_le (by omega), Seq.wrongF] at hw0
    rw [hw0]
    repeat' (first | ((with_reducible first | apply o_move | apply o_assign | apply o_faddr0); exact rfl; exact rfl) | ((with_reducible first | apply o_lss | apply o_gtr); exact rfl; exact rfl; exact rfl) | ((with_reducible first | apply c_seq | apply c_block | apply c_region | apply c_nil | apply c_ret | apply c_exit | apply c_skip)) | ((with_reducible apply c_cond_f); exact rfl; exact fF_) | ((with_reducible first | apply e_then | apply e_then_ret | apply e_then_exit | apply e_in | apply e_in_ret | apply e_in_same)))
    apply r_body; apply res2 Try.results38; exact rV_; exact rV_; intro w' hw
    exact ⟨rfl, hw.below (by simp)⟩
theorem over_calls {vc vf vs : Value} {caps fs ss : List Int} (w : World) (hc : SV w 1 encI vc caps) (hf : SV w 1 encI vf fs) (hs : SV w 1 encI vs ss) (nf : fs.length = caps.length) (ns : ss.length = caps.length) :
    Calls Try.prog 42 #[vc, vf, vs] w fun e w' => e = .returned (atV (Seq.overF 0 caps fs ss)) ∧ Below w.heap.size w w' := by
  obtain ⟨a0, c0, rfl, hc0, hop0⟩ := hc.open
  obtain ⟨a1, c1, rfl, hc1, hop1⟩ := hf.open
  obtain ⟨a2, c2, rfl, hc2, hop2⟩ := hs.open
  refine f_enter3 Try.func42 rfl Try.ntmps42 rfl (Rep.start w) ?_
  repeat' (first | ((with_reducible first | apply o_move | apply o_assign); exact rfl; exact rfl) | ((with_reducible apply o_len); infer_instance; exact rfl; exact rfl) | ((with_reducible first | apply c_seq | apply c_block | apply c_region | apply c_nil | apply c_ret | apply c_exit | apply c_skip)) | ((with_reducible first | apply e_then | apply e_then_ret | apply e_then_exit | apply e_in | apply e_in_ret | apply e_in_same)))
  apply c_loop (σ := Nat) (Fs := fun i => [(12, .int .i64 i), (11, .int .i64 caps.length), (10, .slice a0 caps.length c0), (1, .slice a1 fs.length c1), (2, .slice a2 ss.length c2)])
    (Ls := fun i => []) (I := fun i => i ≤ caps.length ∧ Seq.overF 0 caps fs ss = Seq.overF i (caps.drop i) (fs.drop i) (ss.drop i)) (μ := fun i => caps.length - i) (s0 := 0)
  · exact ⟨Nat.zero_le _, by simp⟩
  · exact fS_
  · exact hS_
  rintro i ⟨hi, hw0⟩
  by_cases hlt : i < caps.length
  · obtain ⟨c, hx⟩ : ∃ c, caps[i]? = some c := ⟨_, List.getElem?_eq_getElem hlt⟩
    obtain ⟨f, hy⟩ : ∃ f, fs[i]? = some f := ⟨_, List.getElem?_eq_getElem (by omega)⟩
    obtain ⟨s, hz⟩ : ∃ s, ss[i]? = some s := ⟨_, List.getElem?_eq_getElem (by omega)⟩
    obtain ⟨b0, o0, cc0, e0, fz0, rfl, hk0, hp0⟩ := hop0 (by omega)
    obtain ⟨b1, o1, cc1, e1, fz1, rfl, hk1, hp1⟩ := hop1 (by omega)
    obtain ⟨b2, o2, cc2, e2, fz2, rfl, hk2, hp2⟩ := hop2 (by omega)
    have h0 := hp0.one hx rfl
    have h1 := hp1.one hy rfl
    have h2 := hp2.one hz rfl
    rw [drop_at hx, drop_at hy, drop_at hz, Seq.overF] at hw0
    by_cases hb : c < f ∨ c < s
    · rw [if_pos hb] at hw0
      rw [hw0]
      repeat' (first | ((with_reducible first | apply o_move | apply o_assign); exact rfl; exact rfl) | ((with_reducible apply gdo_load); first | refine wo_load (h := ?_) | refine wo_loadAll (h := ?_) | refine wo_loadC (h := ?_) | refine wo_ldV (h := ?_) | refine wo_ldF (h := ?_)) | ((with_reducible first | apply o_lss | apply o_gtr); exact rfl; exact rfl; exact rfl) | ((with_reducible apply o_pick_t); exact rfl; exact tT_; exact rfl; exact rfl) | ((with_reducible apply o_pick_f); exact rfl; exact fF_; exact rfl; exact rfl) | ((with_reducible apply o_idx); infer_instance; infer_instance; exact rfl; exact rfl; (first | exact rfl | omega); exact rfl; (first | assumption | omega | decide)) | ((with_reducible first | apply g_run); exact rfl; exact gG_) | ((with_reducible apply g_skip); exact rfl; exact gG_; exact rfl) | ((with_reducible first | apply c_seq | apply c_block | apply c_region | apply c_nil | apply c_ret | apply c_exit | apply c_skip)) | ((with_reducible apply c_cond_t); exact rfl; exact tT_) | ((with_reducible first | apply e_then | apply e_then_ret | apply e_then_exit | apply e_in | apply e_in_ret | apply e_in_same)) | ((with_reducible apply g_split_d); exact rfl; intro hcond; rotate_left; intro hcond; rotate_left))
      all_goals first
        | (exfalso; omega)
        | (apply r_body; apply res2 Try.results42; exact rV_; exact rV_; intro w' hw; exact ⟨rfl, hw.below (by simp)⟩)
    · rw [if_neg hb] at hw0
      repeat' (first | ((with_reducible first | apply o_move | apply o_assign); exact rfl; exact rfl) | ((with_reducible apply gdo_load); first | refine wo_load (h := ?_) | refine wo_loadAll (h := ?_) | refine wo_loadC (h := ?_) | refine wo_ldV (h := ?_) | refine wo_ldF (h := ?_)) | ((with_reducible first | apply o_lss | apply o_gtr); exact rfl; exact rfl; exact rfl) | ((with_reducible apply o_add); exact rfl; exact rfl; exact rfl; (constructor <;> omega)) | ((with_reducible apply o_pick_f); exact rfl; exact fF_; exact rfl; exact rfl) | ((with_reducible apply o_idx); infer_instance; infer_instance; exact rfl; exact rfl; (first | exact rfl | omega); exact rfl; (first | assumption | omega | decide)) | ((with_reducible first | apply g_run); exact rfl; exact gG_) | ((with_reducible first | apply c_seq | apply c_block | apply c_region | apply c_nil | apply c_ret | apply c_exit | apply c_skip)) | ((with_reducible apply c_cond_t); exact rfl; exact tT_) | ((with_reducible apply c_cond_f); exact rfl; exact fF_) | ((with_reducible first | apply e_then | apply e_then_ret | apply e_then_exit | apply e_in | apply e_in_ret | apply e_in_same)))
      refine l_again (i + 1) ⟨by omega, hw0⟩ (by omega) ?_ ?_
      · exact fS_
      · exact hS_
  · have hz : Seq.overF i [] (fs.drop i) (ss.drop i) = none := by simp [Seq.overF]
    rw [List.drop_of_length_le (l := caps) (by omega), hz] at hw0
    rw [hw0]
    repeat' (first | ((with_reducible first | apply o_move | apply o_assign); exact rfl; exact rfl) | ((with_reducible first | apply o_lss | apply o_gtr); exact rfl; exact rfl; exact rfl) | ((with_reducible first | apply c_seq | apply c_block | apply c_region | apply c_nil | apply c_ret | apply c_exit | apply c_skip)) | ((with_reducible apply c_cond_f); exact rfl; exact fF_) | ((with_reducible first | apply e_then | apply e_then_ret | apply e_then_exit | apply e_in | apply e_in_ret | apply e_in_same)))
    apply r_body; apply res2 Try.results42; exact rV_; exact rV_; intro w' hw
    exact ⟨rfl, hw.below (by simp)⟩
/-- A copy in memory of its own. -/
theorem clone_calls {v : Value} {xs : List Int} {w : World} (hsv : SV w 1 encI v xs) (hn : 1 ≤ xs.length ∧ xs.length ≤ 1000000000) :
    Calls Try.prog 40 #[v] w fun e w' => ∃ v' N, e = .returned v' ∧ (∃ a cap, v' = .slice a xs.length cap ∧ OW 3 1 encI (.slice a xs.length cap) xs N ∧ ∀ x ∈ N, x.own = true) ∧ Rep w w' N ∧ ∀ x ∈ N, x.own = true := by
  obtain ⟨a0, c0, rfl, hc0, hop0⟩ := hsv.open
  obtain ⟨b0, o0, cc0, e0, fz0, rfl, hk0, hp0⟩ := hop0 (by omega)
  refine f_enter1 Try.func40 rfl Try.ntmps40 rfl (Rep.start w) ?_
  repeat' (first | ((with_reducible first | apply o_move | apply o_assign); exact rfl; exact rfl) | ((with_reducible apply o_eql_n); infer_instance; exact rfl; exact rfl; exact rfl) | ((with_reducible apply gdo_buildSlice); refine wo_buildSlice (h := fun _ => ?_)) | ((with_reducible first | apply c_seq | apply c_block | apply c_region | apply c_nil | apply c_ret | apply c_exit | apply c_skip)) | ((with_reducible apply c_cond_f); exact rfl; exact fF_) | ((with_reducible first | apply e_then | apply e_then_ret | apply e_then_exit | apply e_in | apply e_in_ret | apply e_in_same)))
  rename_i b0
  have hx0 : OW 3 1 encI (.slice (some ⟨b0, 0, none⟩) 0 0) [] [⟨b0, Ce [] 3, true⟩] := OW.row (xs := []) (s := []) rfl ⟨Nat.le_refl _, by decide⟩
  repeat' (first | (apply o_appH (enc := encI); infer_instance; infer_instance; infer_instance; exact rfl; exact encI_len; exact encI_one; exact rfl; exact rfl; exact rfl; assumption; exact rL_; (exact fun w hw => (hsv.keep hw (by exact aO_))); (first | decide | (constructor <;> (try simp only [List.length_cons, List.length_nil]) <;> omega) | (constructor <;> simp <;> omega)); intro _ _ _ _) | ((with_reducible first | apply o_move | apply o_assign); exact rfl; exact rfl) | ((with_reducible first | apply c_seq | apply c_block | apply c_region | apply c_nil | apply c_ret | apply c_exit | apply c_skip)) | ((with_reducible first | apply e_then | apply e_then_ret | apply e_then_exit | apply e_in | apply e_in_ret | apply e_in_same)))
  rename_i a cap N hO
  simp only [List.nil_append] at hO ⊢
  apply r_body; apply res1 Try.results40; exact rV_; intro w' hw
  exact ⟨_, N, rfl, ⟨a, cap, rfl, hO, hO.own⟩, by simpa using hw, hO.own⟩
end Go.Proofs.Ytkhaemjoekfhiaa
namespace Go.Proofs.Ytkhaemjoekfhiaa
open Go Go.Sx Go.RowKit
attribute [local irreducible] WL WC WQ WR St Exit.then Exit.inBlock Exit.noGoto bodyPost roundPost beginK YR RG BM Calls B
/-! ## loads, stackers -/
theorem loads_step {g : Seq.Seat → Int} {n k i : Nat} {l : List Seq.Seat} {s : Seq.Seat} {z : Int} (hx : l[i]? = some s) (hk : g s = k) (hz : (Seq.loadsF g n (l.take i))[k]? = some z) :
    (Seq.loadsF g n (l.take i)).set k (z + s.vol) = Seq.loadsF g n (l.take (i + 1)) := by
  rw [take_snoc hx, Seq.loadsF_snoc, hk, Seq.addAt]
  simp [hz]
theorem loads_calls {v : Value} {l : List Seq.Seat} {n : Nat} (w : World) (h : SV w 4 encSeat v l) (hl : l.length ≤ 1000) (hn : n ≤ 64) (hs : ∀ s ∈ l, (0 ≤ s.first ∧ s.first < n) ∧ (0 ≤ s.second ∧ s.second < n) ∧ (0 ≤ s.vol ∧ s.vol ≤ 10000)) :
    Calls Try.prog 39 #[v, .int .i64 n] w fun e w' => ∃ v' N, e = .returned v' ∧ (∃ a1 k1 a2 k2 N1 N2, v' = .tuple #[.slice a1 n k1, .slice a2 n k2] ∧ OW 3 1 encI (.slice a1 n k1) (Seq.loadsF Seq.Seat.first n l) N1 ∧ OW 3 1 encI (.slice a2 n k2) (Seq.loadsF Seq.Seat.second n l) N2 ∧ N = N1 ++ N2 ∧ (∀ x ∈ N1, x.own = true) ∧ ∀ x ∈ N2, x.own = true) ∧ Rep w w' N ∧ ∀ x ∈ N, x.own = true := by
  obtain ⟨a0, ca, rfl, hca, hop⟩ := h.open
  refine f_enter2 Try.func39 rfl Try.ntmps39 rfl (Rep.start w) ?_
  repeat' (first | ((with_reducible first | apply o_move | apply o_assign | apply o_faddr0); exact rfl; exact rfl) | ((with_reducible apply o_len); infer_instance; exact rfl; exact rfl) | ((with_reducible first | apply c_seq | apply c_block | apply c_region | apply c_nil | apply c_ret | apply c_exit | apply c_skip)) | ((with_reducible first | apply e_then | apply e_then_ret | apply e_then_exit | apply e_in | apply e_in_ret | apply e_in_same)) | ((with_reducible apply c_regionD0 (id := 1) []); kernel_rfl; kernel_rfl) | ((with_reducible apply q_nil); try simp only [ents, List.cons_append, List.nil_append]) | ((with_reducible first | apply q_move | apply q_assign | apply q_faddr0); exact rfl; exact rfl) | ((with_reducible apply gdq_makeSlice); refine wq_makeSlice (h := fun _ => ?_)))
  rename_i b1 b2
  simp only [zeros_row]
  apply c_loop (σ := Nat × List Int × List Int) (Fs := fun s => [(16, .int .i64 s.1), (15, .int .i64 l.length), (14, .slice a0 l.length ca), (6, slc b1 n), (7, slc b2 n)])
    (Ls := fun s => [⟨b1, Ce (s.2.1.flatMap encI ++ []) 3, true⟩, ⟨b2, Ce (s.2.2.flatMap encI ++ []) 3, true⟩])
    (I := fun s => s.1 ≤ l.length ∧ s.2.1 = Seq.loadsF Seq.Seat.first n (l.take s.1) ∧ s.2.2 = Seq.loadsF Seq.Seat.second n (l.take s.1)) (μ := fun s => l.length - s.1) (s0 := (0, List.replicate n 0, List.replicate n 0))
  · exact ⟨Nat.zero_le _, by simp [Seq.loadsF_nil], by simp [Seq.loadsF_nil]⟩
  · exact fS_
  · exact hS_
  rintro ⟨i, R1, R2⟩ ⟨hi, hR1, hR2⟩
  simp only [] at hi hR1 hR2 ⊢
  have n1 : R1.length = n := by rw [hR1, Seq.loadsF_len]
  have n2 : R2.length = n := by rw [hR2, Seq.loadsF_len]
  by_cases hlt : i < l.length
  · obtain ⟨s, hx⟩ : ∃ s, l[i]? = some s := ⟨_, List.getElem?_eq_getElem hlt⟩
    obtain ⟨b, off, cc, e, fz, rfl, hk, hp⟩ := hop (by omega)
    obtain ⟨st, vo, fi, se⟩ := s
    obtain ⟨hf, hse, hvo⟩ := hs _ (List.mem_of_getElem? hx)
    simp only [] at hf hse hvo
    obtain ⟨f, rfl⟩ := Int.eq_ofNat_of_zero_le hf.1
    obtain ⟨d, rfl⟩ := Int.eq_ofNat_of_zero_le hse.1
    have h1 : ∀ j u, ([.int .i64 st, .int .i64 vo, .int .i64 f, .int .i64 d] : List Value)[j]? = some u → cc[off + i * 4 + j]? = some u := hp.get hx
    have hb : ∀ g k, 0 ≤ Seq.loadOf g k (l.take i) ∧ Seq.loadOf g k (l.take i) ≤ 10000000 := fun g k => by
      have := Seq.loadOf_bounds g k (l := l.take i) (fun s hs' => (hs s (List.mem_of_mem_take hs')).2.2)
      have h2 : ((l.take i).length : Int) ≤ 1000 := by rw [List.length_take]; omega
      omega
    have z1 : R1[f]? = some (Seq.loadOf Seq.Seat.first f (l.take i)) := by rw [hR1]; exact Seq.loadsF_get _ (by omega) _
    have z2 : R2[d]? = some (Seq.loadOf Seq.Seat.second d (l.take i)) := by rw [hR2]; exact Seq.loadsF_get _ (by omega) _
    have b1' := hb Seq.Seat.first f
    have b2' := hb Seq.Seat.second d
    generalize Seq.loadOf Seq.Seat.first f (l.take i) = y1 at z1 b1'
    generalize Seq.loadOf Seq.Seat.second d (l.take i) = y2 at z2 b2'
    have g1 := (Pat.flat encI_len R1 []).one z1 rfl
    have g2 := (Pat.flat encI_len R2 []).one z2 rfl
    repeat' (first | ((apply q_storeS (enc := encI) (kl := 1) (m := f) (o := 0) (xs := R1) (z := y1) (y1 + vo)); infer_instance; exact rfl; exact rfl; exact aT_; exact z1; exact encI_len; omega; exact rfl; exact rfl; (intro u hu; simp at hu; subst hu; rfl); (exact Nat.le_refl _); exact rfl; exact uP_) | ((apply q_storeS (enc := encI) (kl := 1) (m := d) (o := 0) (xs := R2) (z := y2) (y2 + vo)); infer_instance; exact rfl; exact rfl; exact aT_; exact z2; exact encI_len; omega; exact rfl; exact rfl; (intro u hu; simp at hu; subst hu; rfl); (exact Nat.le_refl _); exact rfl; exact uP_) | ((with_reducible first | apply o_move | apply o_assign | apply o_faddr0); exact rfl; exact rfl) | ((with_reducible apply gdo_load); first | refine wo_load (h := ?_) | refine wo_loadAll (h := ?_) | refine wo_loadC (h := ?_) | refine wo_ldV (h := ?_) | refine wo_ldF (h := ?_)) | ((with_reducible apply o_lss); exact rfl; exact rfl; exact rfl) | ((with_reducible apply o_add); exact rfl; exact rfl; exact rfl; (constructor <;> omega)) | ((with_reducible apply o_alloc); exact rfl; intro _) | ((with_reducible apply gdo_store); first | refine wo_store1 (h := ?_) | refine wo_storeA (h := ?_)) | ((with_reducible apply o_idx); infer_instance; infer_instance; exact rfl; exact rfl; (first | exact rfl | omega); exact rfl; (first | assumption | omega | decide)) | ((with_reducible first | apply c_seq | apply c_block | apply c_region | apply c_nil | apply c_ret | apply c_exit | apply c_skip)) | ((with_reducible apply c_cond_t); exact rfl; exact tT_) | ((with_reducible first | apply e_then | apply e_then_ret | apply e_then_exit | apply e_in | apply e_in_ret | apply e_in_same)) | ((with_reducible apply c_regionD0 (id := 5) []); kernel_rfl; kernel_rfl) | ((with_reducible apply c_regionD0 (id := 6) []); kernel_rfl; kernel_rfl) | ((with_reducible apply q_nil); try simp only [ents, List.cons_append, List.nil_append]) | ((with_reducible first | apply q_move | apply q_assign | apply q_faddr0); exact rfl; exact rfl) | ((with_reducible apply gdq_load); first | refine wq_load (h := ?_) | refine wq_loadAll (h := ?_) | refine wq_loadC (h := ?_) | refine wq_ldF (h := ?_)) | ((with_reducible apply q_add); exact rfl; exact rfl; exact rfl; (constructor <;> omega)) | ((with_reducible apply q_idx); infer_instance; infer_instance; exact rfl; exact rfl; (first | exact rfl | omega); exact rfl; (first | assumption | omega | decide)))
    refine l_again (i + 1, R1.set f (y1 + vo), R2.set d (y2 + vo)) ⟨by simp only []; omega, ?_, ?_⟩ (by simp only []; omega) ?_ ?_
    · simp only []
      subst hR1
      exact loads_step hx rfl z1
    · simp only []
      subst hR2
      exact loads_step hx rfl z2
    · exact fS_
    · exact hS_
  · rw [List.take_of_length_le (by omega)] at hR1 hR2
    have r1 : (R1.flatMap encI ++ []).length = n * 1 := by rw [List.append_nil, flat_len encI_len, n1]
    have r2 : (R2.flatMap encI ++ []).length = n * 1 := by rw [List.append_nil, flat_len encI_len, n2]
    repeat' (first | ((with_reducible first | apply o_move | apply o_assign | apply o_faddr0); exact rfl; exact rfl) | ((with_reducible apply o_lss); exact rfl; exact rfl; exact rfl) | ((with_reducible first | apply c_seq | apply c_block | apply c_region | apply c_nil | apply c_ret | apply c_exit | apply c_skip)) | ((with_reducible apply c_cond_f); exact rfl; exact fF_) | ((with_reducible first | apply e_then | apply e_then_ret | apply e_then_exit | apply e_in | apply e_in_ret | apply e_in_same)))
    apply r_body; apply res2 Try.results39; exact rV_; exact rV_; intro w' hw
    have o1 := OW.row (E := 3) (enc := encI) (b := b1) (cap := n) (xs := R1) (s := []) r1 (by omega)
    have o2 := OW.row (E := 3) (enc := encI) (b := b2) (cap := n) (xs := R2) (s := []) r2 (by omega)
    rw [n1] at o1
    rw [n2] at o2
    rw [← hR1, ← hR2]
    exact ⟨_, _, rfl, ⟨_, _, _, _, _, _, rfl, o1, o2, rfl, by simp, by simp⟩, by simpa using hw, by simp⟩
/-! ## plans -/
/-- A plan as a value. -/
def PV (w : World) (v : Value) (p : Seq.Plan) : Prop := ∃ v1 v2 v3 v4, v = .agg #[v1, v2, v3, v4] ∧ SV w 1 encI v1 p.caps ∧ SV w 4 encSeat v2 p.seats ∧ SV w 1 encI v3 p.first ∧ SV w 1 encI v4 p.second
theorem PV.keep {w0 w : World} {L : List Ent} {v : Value} {p : Seq.Plan} (h : PV w0 v p) (hw : Rep w0 w L) (ho : AO L) : PV w v p := by
  obtain ⟨v1, v2, v3, v4, rfl, h1, h2, h3, h4⟩ := h
  exact ⟨v1, v2, v3, v4, rfl, h1.keep hw ho, h2.keep hw ho, h3.keep hw ho, h4.keep hw ho⟩
theorem PV.open {w : World} {v : Value} {p : Seq.Plan} (h : PV w v p) : ∃ a1 c1 a2 c2 a3 c3 a4 c4, v = .agg #[.slice a1 p.caps.length c1, .slice a2 p.seats.length c2, .slice a3 p.first.length c3, .slice a4 p.second.length c4] ∧
    SV w 1 encI (.slice a1 p.caps.length c1) p.caps ∧ SV w 4 encSeat (.slice a2 p.seats.length c2) p.seats ∧ SV w 1 encI (.slice a3 p.first.length c3) p.first ∧ SV w 1 encI (.slice a4 p.second.length c4) p.second := by
  obtain ⟨v1, v2, v3, v4, rfl, h1, h2, h3, h4⟩ := h
  obtain ⟨a1, c1, rfl, _⟩ := h1.open
  obtain ⟨a2, c2, rfl, _⟩ := h2.open
  obtain ⟨a3, c3, rfl, _⟩ := h3.open
  obtain ⟨a4, c4, rfl, _⟩ := h4.open
  exact ⟨a1, c1, a2, c2, a3, c3, a4, c4, rfl, h1, h2, h3, h4⟩
end Go.Proofs.Ytkhaemjoekfhiaa
namespace Go.Proofs.Ytkhaemjoekfhiaa
open Go Go.Sx Go.RowKit
attribute [local irreducible] WL WC WQ WR St Exit.then Exit.inBlock Exit.noGoto bodyPost roundPost beginK YR RG BM Calls B AgainD MeetD
/-! ## Make -/
theorem along_calls (a0 : Option Addr) (n0 c0 : Nat) (a1 : Option Addr) (n1 c1 : Nat) (k : Int) (w : World) : Calls Try.prog 41 #[.slice a0 n0 c0, .slice a1 n1 c1, .int .i64 k] w fun e w' => ∃ v N, e = .returned v ∧
    (∃ b3 b4 b5, v = .func (.func 53) #[] #[ptr b3, ptr b5, ptr b4] ∧ N = [⟨b5, Ce [.int .i64 k] 3, true⟩, ⟨b4, Ce [.slice a1 n1 c1] 43, true⟩, ⟨b3, Ce [.slice a0 n0 c0] 81, true⟩]) ∧ Rep w w' N ∧ ∀ x ∈ N, x.own = true := by
  refine f_enter3 Try.func41 rfl Try.ntmps41 rfl (Rep.start w) ?_
  repeat' (first | ((with_reducible apply o_assign); exact rfl; exact rfl) | ((with_reducible apply o_box); exact rfl; exact rfl; exact rfl; intro _) | ((with_reducible apply gdo_makeFunc); refine wo_func (h := ?_)) | ((with_reducible first | apply c_seq | apply c_block | apply c_region | apply c_nil | apply c_ret | apply c_exit | apply c_skip)) | ((with_reducible first | apply e_then | apply e_then_ret | apply e_then_exit | apply e_in | apply e_in_ret | apply e_in_same)))
  apply r_body; apply res1 Try.results41; exact rV_; intro w' hw
  exact ⟨_, _, rfl, ⟨_, _, _, rfl, rfl⟩, hw, by simp⟩
/-- A plan that the call has made. -/
def planOW (p : Seq.Plan) (v : Value) (N : List Ent) : Prop := ∃ a1 c1 a2 c2 a3 c3 a4 c4 N1 N2 N3 N4, v = .agg #[.slice a1 p.caps.length c1, .slice a2 p.seats.length c2, .slice a3 p.first.length c3, .slice a4 p.second.length c4] ∧
  OW 3 1 encI (.slice a1 p.caps.length c1) p.caps N1 ∧ OW 90 4 encSeat (.slice a2 p.seats.length c2) p.seats N2 ∧ OW 3 1 encI (.slice a3 p.first.length c3) p.first N3 ∧ OW 3 1 encI (.slice a4 p.second.length c4) p.second N4 ∧ N = N1 ++ (N2 ++ (N3 ++ N4))
theorem planOW.own {p : Seq.Plan} {v : Value} {N : List Ent} (h : planOW p v N) : ∀ x ∈ N, x.own = true := by
  obtain ⟨a1, c1, a2, c2, a3, c3, a4, c4, N1, N2, N3, N4, rfl, h1, h2, h3, h4, rfl⟩ := h
  intro x hx
  simp only [List.mem_append] at hx
  rcases hx with hx | hx | hx | hx
  · exact h1.own x hx
  · exact h2.own x hx
  · exact h3.own x hx
  · exact h4.own x hx
def makeφ (r : Seq.Plan × Int) (v : Value) (N : List Ent) : Prop := ∃ pv, v = .tuple #[pv, .int .i64 r.2] ∧ planOW r.1 pv N ∧ ∀ x ∈ N, x.own = true
def noneV : Value := .agg #[.slice none 0 0, .slice none 0 0, .slice none 0 0, .slice none 0 0]
theorem makeφ_zero (k : Int) : makeφ (.zero, k) (.tuple #[.agg #[.slice none 0 0, .slice none 0 0, .slice none 0 0, .slice none 0 0], .int .i64 k]) [] :=
  ⟨_, rfl, ⟨none, 0, none, 0, none, 0, none, 0, [], [], [], [], rfl, OW.nil, OW.nil, OW.nil, OW.nil, rfl⟩, by simp⟩
theorem makeφ_mk {p : Seq.Plan} {a1 a2 a3 a4 : Option Addr} {n1 n2 n3 n4 c1 c2 c3 c4 : Nat} {N1 N2 N3 N4 : List Ent} (e1 : p.caps.length = n1) (e2 : p.seats.length = n2) (e3 : p.first.length = n3) (e4 : p.second.length = n4) (h1 : OW 3 1 encI (.slice a1 n1 c1) p.caps N1) (h2 : OW 90 4 encSeat (.slice a2 n2 c2) p.seats N2) (h3 : OW 3 1 encI (.slice a3 n3 c3) p.first N3) (h4 : OW 3 1 encI (.slice a4 n4 c4) p.second N4) (k : Int) :
    makeφ (p, k) (.tuple #[.agg #[.slice a1 n1 c1, .slice a2 n2 c2, .slice a3 n3 c3, .slice a4 n4 c4], .int .i64 k]) (N1 ++ (N2 ++ (N3 ++ N4))) := by
  subst e1 e2 e3 e4
  have : planOW p (.agg #[.slice a1 p.caps.length c1, .slice a2 p.seats.length c2, .slice a3 p.first.length c3, .slice a4 p.second.length c4]) (N1 ++ (N2 ++ (N3 ++ N4))) := ⟨a1, c1, a2, c2, a3, c3, a4, c4, N1, N2, N3, N4, rfl, h1, h2, h3, h4, rfl⟩
  exact ⟨_, rfl, this, this.own⟩
theorem machine_yes {v : Value} {caps : List Int} (hm : Seq.machineOk caps) (w : World) (h : SV w 1 encI v caps) : Calls Try.prog 37 #[v] w fun e w' => e = .returned (.bool true) ∧ Below w.heap.size w w' := by
  have := smachine_calls w h; rwa [B_true hm] at this
theorem machine_no {v : Value} {caps : List Int} (hm : ¬ Seq.machineOk caps) (w : World) (h : SV w 1 encI v caps) : Calls Try.prog 37 #[v] w fun e w' => e = .returned (.bool false) ∧ Below w.heap.size w w' := by
  have := smachine_calls w h; rwa [B_false hm] at this
theorem wrong_some {v : Value} {l : List Seq.Stop} {i : Nat} (hr : Seq.wrongF [] 0 l = some i) (w : World) (h : SV w 2 encStop v l) : Calls Try.prog 38 #[v] w fun e w' => e = .returned (.tuple #[.int .i64 i, .bool true]) ∧ Below w.heap.size w w' := by
  have := wrong_calls w h; rwa [hr] at this
theorem wrong_none {v : Value} {l : List Seq.Stop} (hr : Seq.wrongF [] 0 l = none) (w : World) (h : SV w 2 encStop v l) : Calls Try.prog 38 #[v] w fun e w' => e = .returned (.tuple #[.int .i64 0, .bool false]) ∧ Below w.heap.size w w' := by
  have := wrong_calls w h; rwa [hr] at this
theorem over_some {vc vf vs : Value} {caps fs ss : List Int} {i : Nat} (hr : Seq.overF 0 caps fs ss = some i) (w : World) (hc : SV w 1 encI vc caps) (hf : SV w 1 encI vf fs) (hs : SV w 1 encI vs ss) (nf : fs.length = caps.length) (ns : ss.length = caps.length) :
    Calls Try.prog 42 #[vc, vf, vs] w fun e w' => e = .returned (.tuple #[.int .i64 i, .bool true]) ∧ Below w.heap.size w w' := by
  have := over_calls w hc hf hs nf ns; rwa [hr] at this
theorem over_none {vc vf vs : Value} {caps fs ss : List Int} (hr : Seq.overF 0 caps fs ss = none) (w : World) (hc : SV w 1 encI vc caps) (hf : SV w 1 encI vf fs) (hs : SV w 1 encI vs ss) (nf : fs.length = caps.length) (ns : ss.length = caps.length) :
    Calls Try.prog 42 #[vc, vf, vs] w fun e w' => e = .returned (.tuple #[.int .i64 0, .bool false]) ∧ Below w.heap.size w w' := by
  have := over_calls w hc hf hs nf ns; rwa [hr] at this
/-! plain laws on the rule -/
theorem place_stay {limit cur held : Nat} {v load c : Int} {cs : List Int} (h : held < limit ∧ load + v ≤ c) : Seq.place limit v cur held load (c :: cs) = some (cur, held, load, c :: cs) := by rw [Seq.place, if_pos h]
theorem place_go {limit cur held : Nat} {v load c : Int} {cs : List Int} (h : ¬ (held < limit ∧ load + v ≤ c)) : Seq.place limit v cur held load (c :: cs) = Seq.place limit v (cur + 1) 0 0 cs := by rw [Seq.place, if_neg h]
set_option maxHeartbeats 4000000 in
theorem make_calls {vs vc : Value} {l : List Seq.Stop} {caps : List Int} (w : World) (hs : SV w 2 encStop vs l) (hc : SV w 1 encI vc caps) : Calls Try.prog 25 #[vs, vc] w fun e w' => ∃ v N, e = .returned v ∧ makeφ (Seq.makeF l caps) v N ∧ Rep w w' N ∧ ∀ x ∈ N, x.own = true := by
  obtain ⟨ao, cs, rfl, hcs, hops⟩ := hs.open
  obtain ⟨av, cv, rfl, hcv, hopv⟩ := hc.open
  by_cases hm : Seq.machineOk caps
  case neg =>
    have e : Seq.makeF l caps = (.zero, 280) := by unfold Seq.makeF; rw [if_pos hm]
    rw [e]
    refine f_enterM2 Try.func25 rfl Try.ntmps25 rfl (Rep.start w) ?_
    repeat' (first | ((first | ((with_reducible apply o_call_pure (f := 37)); exact rfl) | ((with_reducible apply q_call_pure (f := 37)); exact rfl; kernel_rfl; exact rfl; exact sJ_)); exact eV_; exact (fun w hw => machine_no hm w (hc.keep hw (by exact aO_)))) | ((with_reducible first | apply o_move | apply o_assign | apply o_not_d); exact rfl; exact rfl) | ((with_reducible apply o_not); exact rfl; exact rfl) | ((with_reducible apply o_alloc); exact rfl; intro _) | ((with_reducible apply gdo_store); first | refine wo_store1 (h := ?_) | refine wo_storeA (h := ?_)) | ((with_reducible apply gdo_build); first | refine wo_build (h := ?_)) | ((with_reducible first | apply c_seq | apply c_block | apply c_region | apply c_nil | apply c_ret | apply c_exit | apply c_skip)) | ((with_reducible apply c_cond_t); exact rfl; exact tT_) | ((with_reducible first | apply e_then | apply e_then_ret | apply e_then_exit | apply e_in | apply e_in_ret | apply e_in_same)))
    (first | ((with_reducible apply r_M1); exact aT_; exact uP_; apply res2 Try.results25; exact rV_; exact rV_; intro w' hw) | ((with_reducible apply r_M0); apply res2 Try.results25; exact rV_; exact rV_; intro w' hw))
    exact ⟨_, [], rfl, makeφ_zero _, hw.sub (by exact hS_), by simp⟩
  have hm' := hm
  unfold Seq.machineOk at hm'
  obtain ⟨hm1, hm2⟩ := hm'
  by_cases hbig : 1000 < l.length
  · have e : Seq.makeF l caps = (.zero, 5) := by unfold Seq.makeF; rw [if_neg (fun h => h hm), if_pos hbig]
    rw [e]
    refine f_enterM2 Try.func25 rfl Try.ntmps25 rfl (Rep.start w) ?_
    repeat' (first | ((first | ((with_reducible apply o_call_pure (f := 37)); exact rfl) | ((with_reducible apply q_call_pure (f := 37)); exact rfl; kernel_rfl; exact rfl; exact sJ_)); exact eV_; exact (fun w hw => machine_yes hm w (hc.keep hw (by exact aO_)))) | ((with_reducible first | apply o_move | apply o_assign | apply o_not_d); exact rfl; exact rfl) | ((with_reducible first | apply o_lss | apply o_gtr | apply o_geq | apply o_eql | apply o_extract | apply o_min2); exact rfl; exact rfl; exact rfl) | ((with_reducible apply o_not); exact rfl; exact rfl) | ((with_reducible apply o_alloc); exact rfl; intro _) | ((with_reducible apply gdo_store); first | refine wo_store1 (h := ?_) | refine wo_storeA (h := ?_)) | ((with_reducible apply gdo_build); first | refine wo_build (h := ?_)) | ((with_reducible apply o_len); infer_instance; exact rfl; exact rfl) | ((with_reducible first | apply c_seq | apply c_block | apply c_region | apply c_nil | apply c_ret | apply c_exit | apply c_skip)) | ((with_reducible apply c_cond_t); exact rfl; exact tT_) | ((with_reducible apply c_cond_f); exact rfl; exact fF_) | ((with_reducible first | apply e_then | apply e_then_ret | apply e_then_exit | apply e_in | apply e_in_ret | apply e_in_same)))
    (first | ((with_reducible apply r_M1); exact aT_; exact uP_; apply res2 Try.results25; exact rV_; exact rV_; intro w' hw) | ((with_reducible apply r_M0); apply res2 Try.results25; exact rV_; exact rV_; intro w' hw))
    exact ⟨_, [], rfl, makeφ_zero _, hw.sub (by exact hS_), by simp⟩
  cases hr : Seq.wrongF [] 0 l with
  | some i =>
    have e : Seq.makeF l caps = (.zero, 281) := by unfold Seq.makeF; rw [if_neg (fun h => h hm), if_neg hbig, hr]
    rw [e]
    refine f_enterM2 Try.func25 rfl Try.ntmps25 rfl (Rep.start w) ?_
    repeat' (first | ((first | ((with_reducible apply o_call_pure (f := 37)); exact rfl) | ((with_reducible apply q_call_pure (f := 37)); exact rfl; kernel_rfl; exact rfl; exact sJ_)); exact eV_; exact (fun w hw => machine_yes hm w (hc.keep hw (by exact aO_)))) | ((first | ((with_reducible apply o_call_pure (f := 38)); exact rfl) | ((with_reducible apply q_call_pure (f := 38)); exact rfl; kernel_rfl; exact rfl; exact sJ_)); exact eV_; exact (fun w hw => wrong_some hr w (hs.keep hw (by exact aO_)))) | ((with_reducible first | apply o_move | apply o_assign | apply o_not_d); exact rfl; exact rfl) | ((with_reducible first | apply o_lss | apply o_gtr | apply o_geq | apply o_eql | apply o_extract | apply o_min2); exact rfl; exact rfl; exact rfl) | ((with_reducible apply o_not); exact rfl; exact rfl) | ((with_reducible apply o_alloc); exact rfl; intro _) | ((with_reducible apply gdo_store); first | refine wo_store1 (h := ?_) | refine wo_storeA (h := ?_)) | ((with_reducible apply gdo_build); first | refine wo_build (h := ?_)) | ((with_reducible apply o_len); infer_instance; exact rfl; exact rfl) | ((with_reducible first | apply c_seq | apply c_block | apply c_region | apply c_nil | apply c_ret | apply c_exit | apply c_skip)) | ((with_reducible apply c_cond_t); exact rfl; exact tT_) | ((with_reducible apply c_cond_f); exact rfl; exact fF_) | ((with_reducible first | apply e_then | apply e_then_ret | apply e_then_exit | apply e_in | apply e_in_ret | apply e_in_same)))
    (first | ((with_reducible apply r_M1); exact aT_; exact uP_; apply res2 Try.results25; exact rV_; exact rV_; intro w' hw) | ((with_reducible apply r_M0); apply res2 Try.results25; exact rV_; exact rV_; intro w' hw))
    exact ⟨_, [], rfl, makeφ_zero _, hw.sub (by exact hS_), by simp⟩
  | none =>
  have hroute := Seq.wrongF_none.1 hr
  by_cases hl0 : l = []
  · subst hl0
    have e : Seq.makeF [] caps = (⟨caps, [], List.replicate caps.length 0, List.replicate caps.length 0⟩, 0) := by unfold Seq.makeF; rw [if_neg (fun h => h hm), if_neg (by simp), hr, if_pos rfl]
    rw [e]
    refine f_enterM2 Try.func25 rfl Try.ntmps25 rfl (Rep.start w) ?_
    repeat' (first | ((first | ((with_reducible apply o_call_pure (f := 37)); exact rfl) | ((with_reducible apply q_call_pure (f := 37)); exact rfl; kernel_rfl; exact rfl; exact sJ_)); exact eV_; exact (fun w hw => machine_yes hm w (hc.keep hw (by exact aO_)))) | ((first | ((with_reducible apply o_call_pure (f := 38)); exact rfl) | ((with_reducible apply q_call_pure (f := 38)); exact rfl; kernel_rfl; exact rfl; exact sJ_)); exact eV_; exact (fun w hw => wrong_none hr w (hs.keep hw (by exact aO_)))) | ((first | ((with_reducible apply o_call_new (f := 39)); exact rfl) | ((with_reducible apply q_call_new (f := 39)); exact rfl; exact rfl; exact sJ_)); exact eV_; exact (fun w hw => loads_calls (n := caps.length) w SV.nil (by simp) (by omega) (by simp)); rintro v1 N1 ⟨x1, k1, x2, k2, M1, M2, rfl, g1, g2, rfl, o1, o2⟩ <;> (try simp only [List.cons_append, List.nil_append, List.append_assoc])) | ((first | ((with_reducible apply o_call_new (f := 40)); exact rfl) | ((with_reducible apply q_call_new (f := 40)); exact rfl; exact rfl; exact sJ_)); exact eV_; exact (fun w hw => clone_calls (hc.keep hw (by exact aO_)) (by omega)); rintro v3 N3 ⟨x3, k3, rfl, g3, o3⟩ <;> (try simp only [List.cons_append, List.nil_append])) | ((with_reducible first | apply o_move | apply o_assign | apply o_not_d); exact rfl; exact rfl) | ((with_reducible first | apply o_lss | apply o_gtr | apply o_geq | apply o_eql | apply o_extract | apply o_min2); exact rfl; exact rfl; exact rfl) | ((with_reducible apply o_not); exact rfl; exact rfl) | ((with_reducible apply o_alloc); exact rfl; intro _) | ((with_reducible apply gdo_store); first | refine wo_store1 (h := ?_) | refine wo_storeA (h := ?_)) | ((with_reducible apply gdo_build); first | refine wo_build (h := ?_)) | ((with_reducible apply o_len); infer_instance; exact rfl; exact rfl) | ((with_reducible first | apply c_seq | apply c_block | apply c_region | apply c_nil | apply c_ret | apply c_exit | apply c_skip)) | ((with_reducible apply c_cond_t); exact rfl; exact tT_) | ((with_reducible apply c_cond_f); exact rfl; exact fF_) | ((with_reducible first | apply e_then | apply e_then_ret | apply e_then_exit | apply e_in | apply e_in_ret | apply e_in_same)))
    (first | ((with_reducible apply r_M1); exact aT_; exact uP_; apply res2 Try.results25; exact rV_; exact rV_; intro w' hw) | ((with_reducible apply r_M0); apply res2 Try.results25; exact rV_; exact rV_; intro w' hw))
    refine ⟨_, _, rfl, makeφ_mk (p := ⟨caps, [], List.replicate caps.length 0, List.replicate caps.length 0⟩) rfl rfl (by simp) (by simp) g3 OW.nil g1 g2 0, hw.sub (by simp only [List.nil_append]; exact hS_), ?_⟩
    intro x hx
    simp only [List.mem_append, List.not_mem_nil, false_or] at hx
    rcases hx with hx | hx | hx
    · exact o3 x hx
    · exact o1 x hx
    · exact o2 x hx
  have e : Seq.makeF l caps = Seq.limits l caps (min caps.length l.length) := by unfold Seq.makeF; rw [if_neg (fun h => h hm), if_neg hbig, hr, if_neg hl0]
  have hl1 : 1 ≤ l.length := List.length_pos_iff.2 hl0
  have hmin : (if (l.length : Int) < (caps.length : Int) then (l.length : Int) else (caps.length : Int)) = ((min caps.length l.length : Nat) : Int) := by split <;> omega
  refine f_enterM2 Try.func25 rfl Try.ntmps25 rfl (Rep.start w) ?_
  repeat' (first | ((first | ((with_reducible apply o_call_pure (f := 37)); exact rfl) | ((with_reducible apply q_call_pure (f := 37)); exact rfl; kernel_rfl; exact rfl; exact sJ_)); exact eV_; exact (fun w hw => machine_yes hm w (hc.keep hw (by exact aO_)))) | ((first | ((with_reducible apply o_call_pure (f := 38)); exact rfl) | ((with_reducible apply q_call_pure (f := 38)); exact rfl; kernel_rfl; exact rfl; exact sJ_)); exact eV_; exact (fun w hw => wrong_none hr w (hs.keep hw (by exact aO_)))) | ((with_reducible first | apply o_move | apply o_assign | apply o_not_d); exact rfl; exact rfl) | ((with_reducible first | apply o_lss | apply o_gtr | apply o_geq | apply o_eql | apply o_extract | apply o_min2); exact rfl; exact rfl; exact rfl) | ((with_reducible apply o_not); exact rfl; exact rfl) | ((with_reducible apply o_alloc); exact rfl; intro _) | ((with_reducible apply o_len); infer_instance; exact rfl; exact rfl) | ((with_reducible first | apply c_seq | apply c_block | apply c_region | apply c_nil | apply c_ret | apply c_exit | apply c_skip)) | ((with_reducible apply c_cond_f); exact rfl; exact fF_) | ((with_reducible first | apply e_then | apply e_then_ret | apply e_then_exit | apply e_in | apply e_in_ret | apply e_in_same)))
  rename_i b4
  rw [hmin]
  apply c_loopD (σ := Nat × List Nat) (Ds := fun s => s.2.map Sx.mark) (Fs := fun s => [(10, .int .i64 s.1), (0, .slice ao l.length cs), (1, .slice av caps.length cv), (4, ptr b4)])
    (Ls := fun s => ⟨b4, Ce [.slice none 0 0, .slice none 0 0, .slice none 0 0, .slice none 0 0] 86, true⟩ :: (MB s.2 ++ []))
    (I := fun s => s.1 ≤ min caps.length l.length ∧ Seq.makeF l caps = Seq.limits l caps s.1) (μ := fun s => s.1) (s0 := (min caps.length l.length, []))
  · exact ⟨Nat.le_refl _, e⟩
  · rfl
  · exact fS_
  · exact HSub.same
  rintro ⟨L, bds⟩ ⟨hL, hlim⟩
  simp only [] at hL hlim ⊢
  have hMB := MB_own bds
  have hMBn := MBn_own bds
  rcases L with _ | L
  · rw [hlim, Seq.limits]
    repeat' (first | ((with_reducible first | apply o_move | apply o_assign | apply o_not_d); exact rfl; exact rfl) | ((with_reducible first | apply o_lss | apply o_gtr | apply o_geq | apply o_eql | apply o_extract | apply o_min2); exact rfl; exact rfl; exact rfl) | ((with_reducible apply gdo_store); first | refine wo_store1 (h := ?_) | refine wo_storeA (h := ?_)) | ((with_reducible apply gdo_build); first | refine wo_build (h := ?_)) | ((with_reducible first | apply c_seq | apply c_block | apply c_region | apply c_nil | apply c_ret | apply c_exit | apply c_skip)) | ((with_reducible apply c_cond_f); exact rfl; exact fF_) | ((with_reducible first | apply e_then | apply e_then_ret | apply e_then_exit | apply e_in | apply e_in_ret | apply e_in_same)))
    (apply r_Mk (bds := bds); (first | (simp only [MB_cons]; apply RemL.cons; (focus (repeat (first | exact Rem.hd | apply Rem.tl | apply Rem.right))); exact rL_) | exact rL_); apply res2 Try.results25; exact rV_; exact rV_; intro w' hw)
    exact ⟨_, [], rfl, makeφ_zero _, hw.sub (by exact hS_), by simp⟩
  repeat' (first | ((first | ((with_reducible apply o_call_new (f := 41)); exact rfl) | ((with_reducible apply q_call_new (f := 41)); exact rfl; exact rfl; exact sJ_)); exact eV_; exact (fun w _ => along_calls _ _ _ _ _ _ _ w); rintro v N ⟨b3, b6, b5, rfl, rfl⟩ <;> (try simp only [List.cons_append, List.nil_append])) | ((with_reducible first | apply o_move | apply o_assign | apply o_not_d); exact rfl; exact rfl) | ((with_reducible first | apply o_lss | apply o_gtr | apply o_geq | apply o_eql | apply o_extract | apply o_min2); exact rfl; exact rfl; exact rfl) | ((with_reducible apply o_alloc); exact rfl; intro _) | ((with_reducible apply gdo_store); first | refine wo_store1 (h := ?_) | refine wo_storeA (h := ?_)) | ((with_reducible apply o_len); infer_instance; exact rfl; exact rfl) | ((with_reducible apply gdo_makeSlice); refine wo_makeSlice (h := fun _ => ?_)) | ((with_reducible first | apply c_seq | apply c_block | apply c_region | apply c_nil | apply c_ret | apply c_exit | apply c_skip)) | ((with_reducible apply c_cond_t); exact rfl; exact tT_) | ((with_reducible first | apply e_then | apply e_then_ret | apply e_then_exit | apply e_in | apply e_in_ret | apply e_in_same)))
  rename_i br b11
  apply c_post (σ := Nat × (Option Addr × Nat) × List Ent) (Ds := fun s => Sx.mark s.1 :: bds.map Sx.mark)
    (Fs := fun s => [(11, ptr b11), (10, .int .i64 ((L + 1 : Nat) : Int)), (0, .slice ao l.length cs), (1, .slice av caps.length cv), (4, ptr b4)])
    (Ls := fun s => ⟨b11, Ce [.slice s.2.1.1 (Seq.rule (L + 1) l caps).length s.2.1.2] 84, true⟩ :: ⟨s.1, .deferred (some []), true⟩ :: (s.2.2 ++ (⟨b4, Ce [.slice none 0 0, .slice none 0 0, .slice none 0 0, .slice none 0 0] 86, true⟩ :: (MB bds ++ []))))
    (I := fun s => OW 90 4 encSeat (.slice s.2.1.1 (Seq.rule (L + 1) l caps).length s.2.1.2) (Seq.rule (L + 1) l caps) s.2.2)
  · (apply c_rangeFunc3; exact rfl; infer_instance; exact rfl; exact Try.ntmps53; exact rfl; intro lp bd Z a1 ha1 hZ)
    repeat' (first | ((with_reducible first | apply o_move | apply o_assign | apply o_faddr0 | apply o_not_d); exact rfl; exact rfl) | ((with_reducible apply gdo_load); first | refine wo_load (h := ?_) | refine wo_loadAll (h := ?_) | refine wo_loadC (h := ?_) | refine wo_ldV (h := ?_) | refine wo_ldF (h := ?_)) | ((with_reducible apply o_len); infer_instance; exact rfl; exact rfl) | ((with_reducible first | apply c_seq | apply c_block | apply c_region | apply c_nil | apply c_ret | apply c_exit | apply c_skip)) | ((with_reducible first | apply e_then | apply e_then_ret | apply e_then_exit | apply e_in | apply e_in_ret | apply e_in_same)))
    have hlz : (List.replicate l.length [Value.int .i64 0, .int .i64 0, .int .i64 0, .int .i64 0]).flatten.length = l.length * 4 := by simp
    have h0 : OW 90 4 encSeat (.slice (some ⟨br, 0, none⟩) 0 l.length) [] [⟨br, Ce (List.replicate l.length [Value.int .i64 0, .int .i64 0, .int .i64 0, .int .i64 0]).flatten 90, true⟩] :=
      OW.row (xs := []) (s := (List.replicate l.length [Value.int .i64 0, .int .i64 0, .int .i64 0, .int .i64 0]).flatten) hlz ⟨Nat.zero_le _, by simp⟩
    apply c_loop (σ := Nat × (Nat × Nat × Int) × List Seq.Seat × (Option Addr × Nat) × List Ent)
      (Fs := fun t => [(12, .int .i64 t.1), (11, .int .i64 l.length), (10, .slice ao l.length cs), (7, .int .i64 t.2.1.2.2), (6, .int .i64 t.2.1.2.1), (5, .int .i64 t.2.1.1), (0, .func (.yield lp) #[] #[]), (1, ptr b3), (2, ptr b5), (3, ptr b6)])
      (Ls := fun t => ⟨lp, Z .ready none, true⟩ :: ⟨bd, .deferred (some []), true⟩ :: ⟨b5, Ce [.int .i64 ((L + 1 : Nat) : Int)] 3, true⟩ :: ⟨b6, Ce [.slice av caps.length cv] 43, true⟩ :: ⟨b3, Ce [.slice ao l.length cs] 81, true⟩ :: ⟨b11, Ce [.slice t.2.2.2.1.1 t.2.2.1.length t.2.2.2.1.2] 84, true⟩ :: (t.2.2.2.2 ++ (⟨b4, Ce [.slice none 0 0, .slice none 0 0, .slice none 0 0, .slice none 0 0] 86, true⟩ :: (MB bds ++ []))))
      (I := fun t => t.1 ≤ l.length ∧ OW 90 4 encSeat (.slice t.2.2.2.1.1 t.2.2.1.length t.2.2.2.1.2) t.2.2.1 t.2.2.2.2 ∧ (t.2.1.1 < caps.length ∧ t.2.1.2.1 ≤ t.1 ∧ 0 ≤ t.2.1.2.2 ∧ t.2.1.2.2 ≤ 10000 * t.1) ∧ t.2.2.1.length = t.1 ∧ Seq.rule (L + 1) l caps = t.2.2.1 ++ Seq.alongF (L + 1) (l.drop t.1) t.2.1.1 t.2.1.2.1 t.2.1.2.2 (caps.drop t.2.1.1))
      (μ := fun t => l.length - t.1) (s0 := (0, (0, 0, 0), [], (some ⟨br, 0, none⟩, l.length), [⟨br, Ce (List.replicate l.length [Value.int .i64 0, .int .i64 0, .int .i64 0, .int .i64 0]).flatten 90, true⟩]))
    · exact ⟨Nat.zero_le _, h0, ⟨by simp only []; omega, Nat.le_refl _, Int.le_refl _, by simp⟩, rfl, by simp [Seq.rule]⟩
    · exact fS_
    · exact hS_
    rintro ⟨i, ⟨cur, held, load⟩, seats, ⟨ad, cp⟩, N⟩ ⟨hi, hO, ⟨hcur, hheld, hld0, hld1⟩, hsl, hrule⟩
    simp only [] at hi hO hcur hheld hld0 hld1 hsl hrule ⊢
    have hN := hO.own
    by_cases hlt : i < l.length
    · obtain ⟨s, hx⟩ : ∃ s, l[i]? = some s := ⟨_, List.getElem?_eq_getElem hlt⟩
      obtain ⟨bs, offs, ccs, es, fzs, rfl, hks, hps⟩ := hops (by omega)
      have g1 := hps.get hx
      have hok := hroute.1 s (List.mem_of_getElem? hx)
      unfold Seq.Stop.ok at hok
      rw [drop_at hx, Seq.alongF] at hrule
      repeat' (first | ((with_reducible apply gdo_load); first | refine wo_load (h := ?_) | refine wo_loadAll (h := ?_) | refine wo_loadC (h := ?_) | refine wo_ldV (h := ?_) | refine wo_ldF (h := ?_)) | ((with_reducible first | apply o_lss | apply o_gtr | apply o_geq | apply o_eql | apply o_extract | apply o_min2); exact rfl; exact rfl; exact rfl) | ((with_reducible apply o_alloc); exact rfl; intro _) | ((with_reducible apply gdo_store); first | refine wo_store1 (h := ?_) | refine wo_storeA (h := ?_)) | ((with_reducible apply o_idx); infer_instance; infer_instance; exact rfl; exact rfl; (first | exact rfl | omega); exact rfl; (first | assumption | omega | decide)) | ((with_reducible first | apply c_seq | apply c_block | apply c_region | apply c_nil | apply c_ret | apply c_exit | apply c_skip)) | ((with_reducible apply c_cond_t); exact rfl; exact tT_) | ((with_reducible first | apply e_then | apply e_then_ret | apply e_then_exit | apply e_in | apply e_in_ret | apply e_in_same)))
      rename_i b9
      apply c_loop (σ := Nat × Nat × Int)
        (Fs := fun t => [(12, .int .i64 i), (11, .int .i64 l.length), (10, .slice (some ⟨bs, offs, none⟩) l.length cs), (9, ptr b9), (7, .int .i64 t.2.2), (6, .int .i64 t.2.1), (5, .int .i64 t.1), (0, .func (.yield lp) #[] #[]), (1, ptr b3), (2, ptr b5), (3, ptr b6)])
        (Ls := fun t => ⟨b9, Ce [.int .i64 s.id, .int .i64 s.vol] 83, true⟩ :: ⟨lp, Z .ready none, true⟩ :: ⟨bd, .deferred (some []), true⟩ :: ⟨b5, Ce [.int .i64 ((L + 1 : Nat) : Int)] 3, true⟩ :: ⟨b6, Ce [.slice av caps.length cv] 43, true⟩ :: ⟨b3, Ce [.slice (some ⟨bs, offs, none⟩) l.length cs] 81, true⟩ :: ⟨b11, Ce [.slice ad seats.length cp] 84, true⟩ :: (N ++ (⟨b4, Ce [.slice none 0 0, .slice none 0 0, .slice none 0 0, .slice none 0 0] 86, true⟩ :: (MB bds ++ []))))
        (I := fun t => (t.1 < caps.length ∧ t.2.1 ≤ i ∧ 0 ≤ t.2.2 ∧ t.2.2 ≤ 10000 * i) ∧ Seq.place (L + 1) s.vol cur held load (caps.drop cur) = Seq.place (L + 1) s.vol t.1 t.2.1 t.2.2 (caps.drop t.1))
        (μ := fun t => caps.length - t.1) (s0 := (cur, held, load))
      · exact ⟨⟨hcur, hheld, hld0, hld1⟩, rfl⟩
      · exact fS_
      · exact hS_
      rintro ⟨cur2, held2, load2⟩ ⟨⟨hcur2, hheld2, hl20, hl21⟩, hplace⟩
      simp only [] at hcur2 hheld2 hl20 hl21 hplace ⊢
      obtain ⟨c, hy⟩ : ∃ c, caps[cur2]? = some c := ⟨_, List.getElem?_eq_getElem hcur2⟩
      obtain ⟨bv, offv, ccv, ev', fzv, rfl, hkv, hpv⟩ := hopv (by omega)
      have g2 := hpv.one hy rfl
      have hcb := hm2 c (List.mem_of_getElem? hy)
      rw [drop_at hy] at hplace
      by_cases hstay : held2 < L + 1 ∧ load2 + s.vol ≤ c
      · rw [place_stay hstay] at hplace
        rw [hplace] at hrule
        simp only [] at hrule
        rw [← drop_at hy] at hrule
        repeat' (first | ((with_reducible apply o_yield); exact rfl; exact eV_; assumption; assumption; exact aT_; exact rfl; exact rfl; (repeat (first | exact RPar.nil | apply RPar.cons)); intro aI haI) | ((with_reducible apply e_begin); assumption; exact aT_; exact uP_) | (first | ((with_reducible apply e_round); assumption; exact rfl; assumption; exact aT_; exact uP_) | ((with_reducible apply e_round_ret); assumption; exact rfl; assumption; exact aT_; exact uP_) | ((with_reducible apply e_round_exit); assumption; exact rfl; assumption; exact aT_; exact uP_)) | (first | apply r_iter Try.results53 | apply r_iter' Try.results53) | (first | ((with_reducible apply e_range); assumption; assumption; exact aT_; (intro hst; cases hst); exact uP_) | ((with_reducible apply e_rangeJ); assumption; assumption; exact aT_; (intro hst; cases hst); exact uP_)) | (apply o_appH (enc := encSeat) (ys := [(⟨s.id, s.vol, held2, cur2⟩ : Seq.Seat)]); infer_instance; infer_instance; infer_instance; exact rfl; exact encSeat_len; exact encSeat_one; exact rfl; exact rfl; exact rfl; assumption; exact rL_; (exact fun w hw => SV.lit [(⟨s.id, s.vol, held2, cur2⟩ : Seq.Seat)] encSeat_len hw (by exact aT_) rfl rfl (by decide)); (first | decide | (constructor <;> (try simp only [List.length_cons, List.length_nil]) <;> omega) | (constructor <;> simp <;> omega)); intro _ _ _ _) | ((with_reducible first | apply o_move | apply o_assign | apply o_faddr0 | apply o_not_d); exact rfl; exact rfl) | ((with_reducible apply gdo_load); first | refine wo_load (h := ?_) | refine wo_loadAll (h := ?_) | refine wo_loadC (h := ?_) | refine wo_ldV (h := ?_) | refine wo_ldF (h := ?_)) | ((with_reducible apply o_not); exact rfl; exact rfl) | ((with_reducible first | apply o_add | apply o_sub); exact rfl; exact rfl; exact rfl; (constructor <;> omega)) | ((with_reducible apply o_alloc); exact rfl; intro _) | ((with_reducible apply gdo_store); first | refine wo_store1 (h := ?_) | refine wo_storeA (h := ?_)) | ((with_reducible apply gdo_build); first | refine wo_build (h := ?_)) | ((with_reducible apply gdo_buildSlice); refine wo_buildSlice (h := fun _ => ?_)) | ((with_reducible first | apply c_seq | apply c_block | apply c_region | apply c_nil | apply c_ret | apply c_exit | apply c_skip)) | ((with_reducible apply c_cond_f); exact rfl; exact fF_) | ((with_reducible first | apply e_then | apply e_then_ret | apply e_then_exit | apply e_in | apply e_in_ret | apply e_in_same)) | ((with_reducible apply c_regionD0 (id := 4) []); kernel_rfl; kernel_rfl) | ((with_reducible apply q_nil); try simp only [ents, List.cons_append, List.nil_append]) | ((with_reducible first | apply q_move | apply q_assign | apply q_faddr0); exact rfl; exact rfl) | ((with_reducible apply gdq_load); first | refine wq_load (h := ?_) | refine wq_loadAll (h := ?_) | refine wq_loadC (h := ?_) | refine wq_ldF (h := ?_)) | ((with_reducible first | apply q_lss | apply q_gtr | apply q_geq | apply q_extract); exact rfl; exact rfl; exact rfl) | ((with_reducible first | apply q_add); exact rfl; exact rfl; exact rfl; (constructor <;> omega)) | ((with_reducible apply q_pick_f); exact rfl; exact fF_; exact rfl; exact rfl) | ((with_reducible apply q_idx); infer_instance; infer_instance; exact rfl; exact rfl; (first | exact rfl | omega); exact rfl; (first | assumption | omega | decide)) | ((with_reducible first | apply h_run); exact rfl; exact gG_))
        rename_i b12 a' cp' N' hO'
        refine l_again (i + 1, (cur2, held2 + 1, load2 + s.vol), seats ++ [⟨s.id, s.vol, held2, cur2⟩], (a', cp'), N') ⟨by simp only []; omega, hO', ⟨hcur2, by simp only []; omega, by simp only []; omega, by simp only []; omega⟩, by simp only [List.length_append, List.length_cons, List.length_nil]; omega, ?_⟩ (by simp only []; omega) ?_ ?_
        · simp only [List.append_assoc, List.cons_append, List.nil_append]
          exact hrule
        · exact fS_
        · exact hS_
      · rw [place_go hstay] at hplace
        by_cases hlast : cur2 + 1 < caps.length
        · repeat' (first | ((with_reducible first | apply o_move | apply o_assign | apply o_faddr0 | apply o_not_d); exact rfl; exact rfl) | ((with_reducible apply gdo_load); first | refine wo_load (h := ?_) | refine wo_loadAll (h := ?_) | refine wo_loadC (h := ?_) | refine wo_ldV (h := ?_) | refine wo_ldF (h := ?_)) | ((with_reducible first | apply o_lss | apply o_gtr | apply o_geq | apply o_eql | apply o_extract | apply o_min2); exact rfl; exact rfl; exact rfl) | ((with_reducible first | apply o_add | apply o_sub); exact rfl; exact rfl; exact rfl; (constructor <;> omega)) | ((with_reducible apply o_len); infer_instance; exact rfl; exact rfl) | ((with_reducible first | apply c_seq | apply c_block | apply c_region | apply c_nil | apply c_ret | apply c_exit | apply c_skip)) | ((with_reducible apply c_cond_t); exact rfl; exact tT_) | ((with_reducible apply c_cond_f); exact rfl; exact fF_) | ((with_reducible first | apply e_then | apply e_then_ret | apply e_then_exit | apply e_in | apply e_in_ret | apply e_in_same)) | ((with_reducible apply c_regionD0 (id := 4) []); kernel_rfl; kernel_rfl) | ((with_reducible apply q_nil); try simp only [ents, List.cons_append, List.nil_append]) | ((with_reducible first | apply q_move | apply q_assign | apply q_faddr0); exact rfl; exact rfl) | ((with_reducible apply gdq_load); first | refine wq_load (h := ?_) | refine wq_loadAll (h := ?_) | refine wq_loadC (h := ?_) | refine wq_ldF (h := ?_)) | ((with_reducible first | apply q_lss | apply q_gtr | apply q_geq | apply q_extract); exact rfl; exact rfl; exact rfl) | ((with_reducible first | apply q_add); exact rfl; exact rfl; exact rfl; (constructor <;> omega)) | ((with_reducible apply q_pick_t); exact rfl; exact tT_; exact rfl; exact rfl) | ((with_reducible apply q_pick_f); exact rfl; exact fF_; exact rfl; exact rfl) | ((with_reducible apply q_idx); infer_instance; infer_instance; exact rfl; exact rfl; (first | exact rfl | omega); exact rfl; (first | assumption | omega | decide)) | ((with_reducible first | apply h_run); exact rfl; exact gG_) | ((with_reducible apply h_skip); exact rfl; exact gG_; exact rfl) | ((with_reducible apply h_split_d); exact rfl; intro hcond; rotate_left; intro hcond; rotate_left))
          all_goals first
            | (exfalso; omega)
            | (refine l_again (cur2 + 1, 0, 0) ⟨⟨hlast, Nat.zero_le _, Int.le_refl _, by simp only []; omega⟩, hplace⟩ (by simp only []; omega) ?_ ?_
               · exact fS_
               · exact hS_)
        · rw [List.drop_of_length_le (show caps.length ≤ cur2 + 1 by omega), Seq.place] at hplace
          rw [hplace] at hrule
          simp only [List.append_nil] at hrule
          repeat' (first | ((with_reducible apply o_yield); exact rfl; exact eV_; assumption; assumption; exact aT_; exact rfl; exact rfl; (repeat (first | exact RPar.nil | apply RPar.cons)); intro aI haI) | ((with_reducible apply e_begin); assumption; exact aT_; exact uP_) | (first | ((with_reducible apply e_round); assumption; exact rfl; assumption; exact aT_; exact uP_) | ((with_reducible apply e_round_ret); assumption; exact rfl; assumption; exact aT_; exact uP_) | ((with_reducible apply e_round_exit); assumption; exact rfl; assumption; exact aT_; exact uP_)) | (first | apply r_iter Try.results53 | apply r_iter' Try.results53) | (first | ((with_reducible apply e_range); assumption; assumption; exact aT_; (intro hst; cases hst); exact uP_) | ((with_reducible apply e_rangeJ); assumption; assumption; exact aT_; (intro hst; cases hst); exact uP_)) | ((with_reducible first | apply o_move | apply o_assign | apply o_faddr0 | apply o_not_d); exact rfl; exact rfl) | ((with_reducible apply gdo_load); first | refine wo_load (h := ?_) | refine wo_loadAll (h := ?_) | refine wo_loadC (h := ?_) | refine wo_ldV (h := ?_) | refine wo_ldF (h := ?_)) | ((with_reducible first | apply o_lss | apply o_gtr | apply o_geq | apply o_eql | apply o_extract | apply o_min2); exact rfl; exact rfl; exact rfl) | ((with_reducible first | apply o_add | apply o_sub); exact rfl; exact rfl; exact rfl; (constructor <;> omega)) | ((with_reducible apply o_len); infer_instance; exact rfl; exact rfl) | ((with_reducible first | apply c_seq | apply c_block | apply c_region | apply c_nil | apply c_ret | apply c_exit | apply c_skip)) | ((with_reducible apply c_cond_t); exact rfl; exact tT_) | ((with_reducible first | apply e_then | apply e_then_ret | apply e_then_exit | apply e_in | apply e_in_ret | apply e_in_same)) | ((with_reducible apply c_regionD0 (id := 4) []); kernel_rfl; kernel_rfl) | ((with_reducible apply q_nil); try simp only [ents, List.cons_append, List.nil_append]) | ((with_reducible first | apply q_move | apply q_assign | apply q_faddr0); exact rfl; exact rfl) | ((with_reducible apply gdq_load); first | refine wq_load (h := ?_) | refine wq_loadAll (h := ?_) | refine wq_loadC (h := ?_) | refine wq_ldF (h := ?_)) | ((with_reducible first | apply q_lss | apply q_gtr | apply q_geq | apply q_extract); exact rfl; exact rfl; exact rfl) | ((with_reducible first | apply q_add); exact rfl; exact rfl; exact rfl; (constructor <;> omega)) | ((with_reducible apply q_pick_t); exact rfl; exact tT_; exact rfl; exact rfl) | ((with_reducible apply q_pick_f); exact rfl; exact fF_; exact rfl; exact rfl) | ((with_reducible apply q_idx); infer_instance; infer_instance; exact rfl; exact rfl; (first | exact rfl | omega); exact rfl; (first | assumption | omega | decide)) | ((with_reducible first | apply h_run); exact rfl; exact gG_) | ((with_reducible apply h_skip); exact rfl; exact gG_; exact rfl) | ((with_reducible apply h_split_d); exact rfl; intro hcond; rotate_left; intro hcond; rotate_left))
          all_goals first
            | (exfalso; omega)
            | (refine l_meetD (bd, (ad, cp), N) (by simp only []; rw [hrule]; exact hO) rfl ?_ ?_
               · exact fS_
               · simp only [hrule]; exact hS_)
    · rw [List.drop_of_length_le (by omega), Seq.alongF, List.append_nil] at hrule
      repeat' (first | ((with_reducible apply o_yield); exact rfl; exact eV_; assumption; assumption; exact aT_; exact rfl; exact rfl; (repeat (first | exact RPar.nil | apply RPar.cons)); intro aI haI) | ((with_reducible apply e_begin); assumption; exact aT_; exact uP_) | (first | ((with_reducible apply e_round); assumption; exact rfl; assumption; exact aT_; exact uP_) | ((with_reducible apply e_round_ret); assumption; exact rfl; assumption; exact aT_; exact uP_) | ((with_reducible apply e_round_exit); assumption; exact rfl; assumption; exact aT_; exact uP_)) | (first | apply r_iter Try.results53 | apply r_iter' Try.results53) | (first | ((with_reducible apply e_range); assumption; assumption; exact aT_; (intro hst; cases hst); exact uP_) | ((with_reducible apply e_rangeJ); assumption; assumption; exact aT_; (intro hst; cases hst); exact uP_)) | ((with_reducible first | apply o_lss | apply o_gtr | apply o_geq | apply o_eql | apply o_extract | apply o_min2); exact rfl; exact rfl; exact rfl) | ((with_reducible first | apply c_seq | apply c_block | apply c_region | apply c_nil | apply c_ret | apply c_exit | apply c_skip)) | ((with_reducible apply c_cond_f); exact rfl; exact fF_) | ((with_reducible first | apply e_then | apply e_then_ret | apply e_then_exit | apply e_in | apply e_in_ret | apply e_in_same)))
      refine l_meetD (bd, (ad, cp), N) (by simp only []; rw [hrule]; exact hO) rfl ?_ ?_
      · exact fS_
      · simp only [hrule]; exact hS_
  · rintro ⟨bd, ⟨ad, cp⟩, N⟩ hO
    dsimp only at hO ⊢
    have hN := hO.own
    have hsub : ((L + 1 : Nat) : Int) - 1 = (L : Int) := by omega
    have hrl := Seq.rule_len (L + 1) l caps
    have hrr := Seq.rule_range (limit := L + 1) (l := l) (caps := caps) (by omega) hroute.1
    rw [Seq.limits] at hlim
    by_cases hshort : (Seq.rule (L + 1) l caps).length < l.length
    · rw [if_pos hshort] at hlim
      repeat' (first | ((with_reducible first | apply o_move | apply o_assign | apply o_faddr0 | apply o_not_d); exact rfl; exact rfl) | ((with_reducible apply gdo_load); first | refine wo_load (h := ?_) | refine wo_loadAll (h := ?_) | refine wo_loadC (h := ?_) | refine wo_ldV (h := ?_) | refine wo_ldF (h := ?_)) | ((with_reducible first | apply o_lss | apply o_gtr | apply o_geq | apply o_eql | apply o_extract | apply o_min2); exact rfl; exact rfl; exact rfl) | ((with_reducible first | apply o_add | apply o_sub); exact rfl; exact rfl; exact rfl; (constructor <;> omega)) | ((with_reducible apply o_len); infer_instance; exact rfl; exact rfl) | ((with_reducible first | apply c_seq | apply c_block | apply c_region | apply c_nil | apply c_ret | apply c_exit | apply c_skip)) | ((with_reducible apply c_cond_t); exact rfl; exact tT_) | ((with_reducible first | apply e_then | apply e_then_ret | apply e_then_exit | apply e_in | apply e_in_ret | apply e_in_same)))
      rw [hsub]
      refine l_againD (L, bd :: bds) ⟨by simp only []; omega, hlim⟩ (by simp only []; omega) rfl ?_ ?_
      · exact fS_
      · simp only [MB_cons, List.cons_append]; exact hS_
    · rw [if_neg hshort] at hlim
      cases hov : Seq.overF 0 caps (Seq.loadsF Seq.Seat.first caps.length (Seq.rule (L + 1) l caps)) (Seq.loadsF Seq.Seat.second caps.length (Seq.rule (L + 1) l caps)) with
      | some k =>
        rw [hov] at hlim
        simp only [] at hlim
        repeat' (first | ((first | ((with_reducible apply o_call_new (f := 39)); exact rfl) | ((with_reducible apply q_call_new (f := 39)); exact rfl; exact rfl; exact sJ_)); exact eV_; exact (fun w hw => loads_calls (n := caps.length) w (hO.sv encSeat_len (by exact rL_) hw) (by omega) (by omega) hrr); rintro v1 N1 ⟨x1, k1, x2, k2, M1, M2, rfl, g1, g2, rfl, o1, o2⟩ <;> (try simp only [List.cons_append, List.nil_append, List.append_assoc])) | ((first | ((with_reducible apply o_call_pure (f := 42)); exact rfl) | ((with_reducible apply q_call_pure (f := 42)); exact rfl; kernel_rfl; exact rfl; exact sJ_)); exact eV_; exact (fun w hw => over_some hov w (hc.keep hw (by exact aO_)) (g1.sv encI_len (by exact rL_) hw) (g2.sv encI_len (by exact rL_) hw) (Seq.loadsF_len _ _ _) (Seq.loadsF_len _ _ _))) | ((with_reducible first | apply o_move | apply o_assign | apply o_faddr0 | apply o_not_d); exact rfl; exact rfl) | ((with_reducible apply gdo_load); first | refine wo_load (h := ?_) | refine wo_loadAll (h := ?_) | refine wo_loadC (h := ?_) | refine wo_ldV (h := ?_) | refine wo_ldF (h := ?_)) | ((with_reducible first | apply o_lss | apply o_gtr | apply o_geq | apply o_eql | apply o_extract | apply o_min2); exact rfl; exact rfl; exact rfl) | ((with_reducible apply o_not); exact rfl; exact rfl) | ((with_reducible first | apply o_add | apply o_sub); exact rfl; exact rfl; exact rfl; (constructor <;> omega)) | ((with_reducible apply o_len); infer_instance; exact rfl; exact rfl) | ((with_reducible first | apply c_seq | apply c_block | apply c_region | apply c_nil | apply c_ret | apply c_exit | apply c_skip)) | ((with_reducible apply c_cond_f); exact rfl; exact fF_) | ((with_reducible first | apply e_then | apply e_then_ret | apply e_then_exit | apply e_in | apply e_in_ret | apply e_in_same)))
        rw [hsub]
        refine l_againD (L, bd :: bds) ⟨by simp only []; omega, hlim⟩ (by simp only []; omega) rfl ?_ ?_
        · exact fS_
        · simp only [MB_cons, List.cons_append]; exact hS_
      | none =>
        rw [hov] at hlim
        simp only [] at hlim
        rw [hlim]
        have hMBn2 := MBn_own (bd :: bds)
        repeat' (first | ((first | ((with_reducible apply o_call_new (f := 39)); exact rfl) | ((with_reducible apply q_call_new (f := 39)); exact rfl; exact rfl; exact sJ_)); exact eV_; exact (fun w hw => loads_calls (n := caps.length) w (hO.sv encSeat_len (by exact rL_) hw) (by omega) (by omega) hrr); rintro v1 N1 ⟨x1, k1, x2, k2, M1, M2, rfl, g1, g2, rfl, o1, o2⟩ <;> (try simp only [List.cons_append, List.nil_append, List.append_assoc])) | ((first | ((with_reducible apply o_call_pure (f := 42)); exact rfl) | ((with_reducible apply q_call_pure (f := 42)); exact rfl; kernel_rfl; exact rfl; exact sJ_)); exact eV_; exact (fun w hw => over_none hov w (hc.keep hw (by exact aO_)) (g1.sv encI_len (by exact rL_) hw) (g2.sv encI_len (by exact rL_) hw) (Seq.loadsF_len _ _ _) (Seq.loadsF_len _ _ _))) | ((with_reducible apply c_regionD0 (id := 22) [(1, fun v N => ∃ a cap, v = .slice a caps.length cap ∧ OW 3 1 encI (.slice a caps.length cap) caps N ∧ ∀ x ∈ N, x.own = true)]); kernel_rfl; kernel_rfl) | ((first | ((with_reducible apply o_call_new (f := 40)); exact rfl) | ((with_reducible apply q_call_new (f := 40)); exact rfl; exact rfl; exact sJ_)); exact eV_; exact (fun w hw => clone_calls (hc.keep hw (by exact aO_)) (by omega)); rintro v3 N3 ⟨x3, k3, rfl, g3, o3⟩ <;> (try simp only [List.cons_append, List.nil_append])) | ((with_reducible first | apply o_move | apply o_assign | apply o_faddr0 | apply o_not_d); exact rfl; exact rfl) | ((with_reducible apply gdo_load); first | refine wo_load (h := ?_) | refine wo_loadAll (h := ?_) | refine wo_loadC (h := ?_) | refine wo_ldV (h := ?_) | refine wo_ldF (h := ?_)) | ((with_reducible first | apply o_lss | apply o_gtr | apply o_geq | apply o_eql | apply o_extract | apply o_min2); exact rfl; exact rfl; exact rfl) | ((with_reducible apply o_not); exact rfl; exact rfl) | ((with_reducible apply o_len); infer_instance; exact rfl; exact rfl) | ((with_reducible first | apply c_seq | apply c_block | apply c_region | apply c_nil | apply c_ret | apply c_exit | apply c_skip)) | ((with_reducible apply c_cond_t); exact rfl; exact tT_) | ((with_reducible apply c_cond_f); exact rfl; exact fF_) | ((with_reducible first | apply e_then | apply e_then_ret | apply e_then_exit | apply e_in | apply e_in_ret | apply e_in_same)) | ((with_reducible apply q_nil); try simp only [ents, List.cons_append, List.nil_append]) | ((with_reducible first | apply q_move | apply q_assign | apply q_faddr0); exact rfl; exact rfl) | ((with_reducible apply gdq_load); first | refine wq_load (h := ?_) | refine wq_loadAll (h := ?_) | refine wq_loadC (h := ?_) | refine wq_ldF (h := ?_)) | ((with_reducible apply gdq_build); first | refine wq_build (h := ?_)) | ((with_reducible apply gdq_store); first | refine wq_storeA (h := ?_) | refine wq_storeAE (h := ?_)))
        (apply r_Mk (bds := (bd :: bds)); (first | (simp only [MB_cons]; apply RemL.cons; (focus (repeat (first | exact Rem.hd | apply Rem.tl | apply Rem.right))); exact rL_) | exact rL_); apply res2 Try.results25; exact rV_; exact rV_; intro w' hw)
        refine ⟨_, _, rfl, makeφ_mk (p := ⟨caps, Seq.rule (L + 1) l caps, Seq.loadsF Seq.Seat.first caps.length (Seq.rule (L + 1) l caps), Seq.loadsF Seq.Seat.second caps.length (Seq.rule (L + 1) l caps)⟩) rfl rfl (Seq.loadsF_len _ _ _) (Seq.loadsF_len _ _ _) g3 hO g1 g2 0, hw.sub (by exact hS_), ?_⟩
        intro x hx
        simp only [List.mem_append] at hx
        rcases hx with hx | hx | hx | hx
        · exact o3 x hx
        · exact hN x hx
        · exact o1 x hx
        · exact o2 x hx
end Go.Proofs.Ytkhaemjoekfhiaa
namespace Go.Proofs.Ytkhaemjoekfhiaa
open Go Go.Sx Go.RowKit
attribute [local irreducible] WL WC WQ WR St Exit.then Exit.inBlock Exit.noGoto bodyPost roundPost beginK YR RG BM Calls B AgainD MeetD
/-! ## the results, taken apart -/
def makeψ (p : Seq.Plan) (k : Int) (v : Value) (N : List Ent) : Prop := ∃ a1 c1 a2 c2 a3 c3 a4 c4 N1 N2 N3 N4, v = .tuple #[.agg #[.slice a1 p.caps.length c1, .slice a2 p.seats.length c2, .slice a3 p.first.length c3, .slice a4 p.second.length c4], .int .i64 k] ∧
  OW 3 1 encI (.slice a1 p.caps.length c1) p.caps N1 ∧ OW 90 4 encSeat (.slice a2 p.seats.length c2) p.seats N2 ∧ OW 3 1 encI (.slice a3 p.first.length c3) p.first N3 ∧ OW 3 1 encI (.slice a4 p.second.length c4) p.second N4 ∧ N = N1 ++ (N2 ++ (N3 ++ N4)) ∧
  (∀ x ∈ N1, x.own = true) ∧ (∀ x ∈ N2, x.own = true) ∧ (∀ x ∈ N3, x.own = true) ∧ ∀ x ∈ N4, x.own = true
theorem make_calls' {vs vc : Value} {l : List Seq.Stop} {caps : List Int} {p : Seq.Plan} {k : Int} (he : Seq.makeF l caps = (p, k)) (w : World) (hs : SV w 2 encStop vs l) (hc : SV w 1 encI vc caps) : Calls Try.prog 25 #[vs, vc] w fun e w' => ∃ v N, e = .returned v ∧ makeψ p k v N ∧ Rep w w' N ∧ ∀ x ∈ N, x.own = true :=
  (make_calls w hs hc).mono fun e w' ⟨v, N, h1, h2, h3, h4⟩ => by
    rw [he] at h2
    obtain ⟨pv, rfl, ⟨a1, c1, a2, c2, a3, c3, a4, c4, N1, N2, N3, N4, rfl, g1, g2, g3, g4, rfl⟩, _⟩ := h2
    exact ⟨_, _, h1, ⟨a1, c1, a2, c2, a3, c3, a4, c4, N1, N2, N3, N4, rfl, g1, g2, g3, g4, rfl, g1.own, g2.own, g3.own, g4.own⟩, h3, h4⟩
end Go.Proofs.Ytkhaemjoekfhiaa
