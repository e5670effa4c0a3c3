/- A part of the proofs of this seat: a small logic of walks, plain laws, and what some of the program's functions compute, shown by walks through their code. Conditions: the hypotheses that each theorem names. -/
import Derived.Test.YthcoaljmgkhglaaZOTop3
import Derived.ChangeKeysEq
set_option linter.unusedSimpArgs false
set_option linter.unusedVariables false
set_option linter.unusedSectionVars false
namespace Go.Proofs.Ythcoaljmgkhglaa
open Go Go.Sx Go.RowKit
attribute [local irreducible] WL WC WQ WR St Exit.then Exit.inBlock Exit.noGoto bodyPost roundPost beginK YR RG BM Calls B
/-! ## machines, routes, loads -/
@[reducible] def ptr (b : Nat) : Value := .pointer (some ⟨b, 0, none⟩)
@[reducible] def slc (b n : Nat) : Value := .slice (some ⟨b, 0, none⟩) n n
def encStop (s : Seq.Stop) : List Value := [.int .i64 s.id, .int .i64 s.vol]
theorem encStop_len : ∀ x, (encStop x).length = 2 := fun _ => rfl
theorem encStop_one : ∀ x, (encStop x).all (·.oneCell') = true := fun _ => rfl
def encSeat (s : Seq.Seat) : List Value := [.int .i64 s.stop, .int .i64 s.vol, .int .i64 s.first, .int .i64 s.second]
theorem encSeat_len : ∀ x, (encSeat x).length = 4 := fun _ => rfl
theorem encSeat_one : ∀ x, (encSeat x).all (·.oneCell') = true := fun _ => rfl
theorem take_snoc {α : Type} {l : List α} {i : Nat} {x : α} (h : l[i]? = some x) : l.take (i + 1) = l.take i ++ [x] := by rw [List.take_add_one, h]; rfl
theorem drop_at {α : Type} {l : List α} {i : Nat} {x : α} (h : l[i]? = some x) : l.drop i = x :: l.drop (i + 1) := by
  obtain ⟨hlt, rfl⟩ := List.getElem?_eq_some_iff.1 h
  exact (List.getElem_cons_drop (h := hlt)).symm
theorem take_all {α : Type} {p : α → Prop} {l : List α} {i : Nat} {x : α} (h : l[i]? = some x) (hp : ∀ y ∈ l.take i, p y) (hx : p x) : ∀ y ∈ l.take (i + 1), p y := by
  rw [take_snoc h]
  intro y hy
  rcases List.mem_append.1 hy with h | h
  · exact hp y h
  · simp at h; subst h; exact hx
theorem machine_calls {v : Value} {caps : List Int} (w : World) (h : SV w 1 encI v caps) : Calls Try.prog 22 #[v] w fun e w' => e = .returned (.bool (B (Seq.machineOk caps))) ∧ Below w.heap.size w w' := by
  obtain ⟨a0, ca, rfl, hca, hop⟩ := h.open
  by_cases hl : 1 ≤ caps.length ∧ caps.length ≤ 64
  case neg =>
    rw [B_false (fun h => hl h.1)]
    refine f_enter1 Try.func22 rfl Try.ntmps22 rfl (Rep.start w) ?_
    repeat' (first | ((with_reducible first | apply o_move | apply o_assign); exact rfl; exact rfl) | ((with_reducible first | apply o_lss | apply o_gtr); exact rfl; exact rfl; exact rfl) | ((with_reducible apply o_pick_t); exact rfl; exact tT_; exact rfl; exact rfl) | ((with_reducible apply o_pick_f); exact rfl; exact fF_; exact rfl; exact rfl) | ((with_reducible apply o_len); infer_instance; exact rfl; exact rfl) | ((with_reducible first | apply g_run); exact rfl; exact gG_) | ((with_reducible apply g_skip); exact rfl; exact gG_; exact rfl) | ((with_reducible first | apply c_seq | apply c_block | apply c_region | apply c_nil | apply c_ret | apply c_exit | apply c_skip)) | ((with_reducible apply c_cond_t); exact rfl; exact tT_) | ((with_reducible first | apply e_then | apply e_then_ret | apply e_then_exit | apply e_in | apply e_in_ret | apply e_in_same)) | ((with_reducible apply g_split_d); exact rfl; intro hcond; rotate_left; intro hcond; rotate_left))
    all_goals first
      | (exfalso; omega)
      | (apply r_body; apply res1 Try.results22; exact rV_; intro w' hw; exact ⟨rfl, hw.below (by simp)⟩)
  refine f_enter1 Try.func22 rfl Try.ntmps22 rfl (Rep.start w) ?_
  repeat' (first | ((with_reducible first | apply o_move | apply o_assign); exact rfl; exact rfl) | ((with_reducible first | apply o_lss | apply o_gtr); exact rfl; exact rfl; exact rfl) | ((with_reducible apply o_pick_f); exact rfl; exact fF_; exact rfl; exact rfl) | ((with_reducible apply o_len); infer_instance; exact rfl; exact rfl) | ((with_reducible first | apply g_run); exact rfl; exact gG_) | ((with_reducible first | apply c_seq | apply c_block | apply c_region | apply c_nil | apply c_ret | apply c_exit | apply c_skip)) | ((with_reducible apply c_cond_f); exact rfl; exact fF_) | ((with_reducible first | apply e_then | apply e_then_ret | apply e_then_exit | apply e_in | apply e_in_ret | apply e_in_same)))
  apply c_loop (σ := Nat) (Fs := fun i => [(15, .int .i64 i), (14, .int .i64 caps.length), (13, .slice a0 caps.length ca)])
    (Ls := fun i => []) (I := fun i => i ≤ caps.length ∧ ∀ c ∈ caps.take i, 1 ≤ c ∧ c ≤ 100000) (μ := fun i => caps.length - i) (s0 := 0)
  · exact ⟨Nat.zero_le _, by simp⟩
  · exact fS_
  · exact hS_
  rintro i ⟨hi, hin⟩
  by_cases hlt : i < caps.length
  · obtain ⟨c, hx⟩ : ∃ c, caps[i]? = some c := ⟨_, List.getElem?_eq_getElem hlt⟩
    obtain ⟨b, off, cc, e, fz, rfl, hk, hp⟩ := hop (by omega)
    have h1 := hp.one hx rfl
    by_cases hc : 1 ≤ c ∧ c ≤ 100000
    · repeat' (first | ((with_reducible first | apply o_move | apply o_assign); exact rfl; exact rfl) | ((with_reducible apply gdo_load); first | refine wo_load (h := ?_) | refine wo_loadAll (h := ?_) | refine wo_loadC (h := ?_) | refine wo_ldV (h := ?_)) | ((with_reducible first | apply o_lss | apply o_gtr); exact rfl; exact rfl; exact rfl) | ((with_reducible apply o_add); exact rfl; exact rfl; exact rfl; (constructor <;> omega)) | ((with_reducible apply o_pick_f); exact rfl; exact fF_; exact rfl; exact rfl) | ((with_reducible apply o_idx); infer_instance; infer_instance; exact rfl; exact rfl; (first | exact rfl | omega); exact rfl; (first | assumption | omega | decide)) | ((with_reducible first | apply g_run); exact rfl; exact gG_) | ((with_reducible first | apply c_seq | apply c_block | apply c_region | apply c_nil | apply c_ret | apply c_exit | apply c_skip)) | ((with_reducible apply c_cond_t); exact rfl; exact tT_) | ((with_reducible apply c_cond_f); exact rfl; exact fF_) | ((with_reducible first | apply e_then | apply e_then_ret | apply e_then_exit | apply e_in | apply e_in_ret | apply e_in_same)))
      refine l_again (i + 1) ⟨by omega, take_all hx hin hc⟩ (by omega) ?_ ?_
      · exact fS_
      · exact hS_
    · rw [B_false (fun h => hc (h.2 c (List.mem_of_getElem? hx)))]
      repeat' (first | ((with_reducible first | apply o_move | apply o_assign); exact rfl; exact rfl) | ((with_reducible apply gdo_load); first | refine wo_load (h := ?_) | refine wo_loadAll (h := ?_) | refine wo_loadC (h := ?_) | refine wo_ldV (h := ?_)) | ((with_reducible first | apply o_lss | apply o_gtr); exact rfl; exact rfl; exact rfl) | ((with_reducible apply o_pick_t); exact rfl; exact tT_; exact rfl; exact rfl) | ((with_reducible apply o_pick_f); exact rfl; exact fF_; exact rfl; exact rfl) | ((with_reducible apply o_idx); infer_instance; infer_instance; exact rfl; exact rfl; (first | exact rfl | omega); exact rfl; (first | assumption | omega | decide)) | ((with_reducible first | apply g_run); exact rfl; exact gG_) | ((with_reducible apply g_skip); exact rfl; exact gG_; exact rfl) | ((with_reducible first | apply c_seq | apply c_block | apply c_region | apply c_nil | apply c_ret | apply c_exit | apply c_skip)) | ((with_reducible apply c_cond_t); exact rfl; exact tT_) | ((with_reducible first | apply e_then | apply e_then_ret | apply e_then_exit | apply e_in | apply e_in_ret | apply e_in_same)) | ((with_reducible apply g_split_d); exact rfl; intro hcond; rotate_left; intro hcond; rotate_left))
      all_goals first
        | (exfalso; omega)
        | (apply r_body; apply res1 Try.results22; exact rV_; intro w' hw; exact ⟨rfl, hw.below (by simp)⟩)
  · rw [List.take_of_length_le (by omega)] at hin
    rw [B_true ⟨hl, hin⟩]
    repeat' (first | ((with_reducible first | apply o_move | apply o_assign); exact rfl; exact rfl) | ((with_reducible first | apply o_lss | apply o_gtr); exact rfl; exact rfl; exact rfl) | ((with_reducible first | apply c_seq | apply c_block | apply c_region | apply c_nil | apply c_ret | apply c_exit | apply c_skip)) | ((with_reducible apply c_cond_f); exact rfl; exact fF_) | ((with_reducible first | apply e_then | apply e_then_ret | apply e_then_exit | apply e_in | apply e_in_ret | apply e_in_same)))
    apply r_body; apply res1 Try.results22; exact rV_; intro w' hw
    exact ⟨rfl, hw.below (by simp)⟩
def atV : Option Nat → Value
  | some i => .tuple #[.int .i64 i, .bool true]
  | none => .tuple #[.int .i64 0, .bool false]
theorem wrong_calls {v : Value} {l : List Seq.Stop} (w : World) (h : SV w 2 encStop v l) : Calls Try.prog 23 #[v] w fun e w' => e = .returned (atV (Seq.wrongF [] 0 l)) ∧ Below w.heap.size w w' := by
  obtain ⟨a0, ca, rfl, hca, hop⟩ := h.open
  refine f_enter1 Try.func23 rfl Try.ntmps23 rfl (Rep.start w) ?_
  repeat' (first | ((with_reducible first | apply o_move | apply o_assign | apply o_faddr0); exact rfl; exact rfl) | ((with_reducible apply o_len); infer_instance; exact rfl; exact rfl) | ((with_reducible apply o_makeMap); infer_instance; exact rfl; exact rfl; intro _) | ((with_reducible first | apply c_seq | apply c_block | apply c_region | apply c_nil | apply c_ret | apply c_exit | apply c_skip)) | ((with_reducible first | apply e_then | apply e_then_ret | apply e_then_exit | apply e_in | apply e_in_ret | apply e_in_same)))
  rename_i bm
  apply c_loop (σ := Nat) (Fs := fun i => [(12, .int .i64 i), (11, .int .i64 l.length), (10, .slice a0 l.length ca), (4, .map (some bm))])
    (Ls := fun i => [⟨bm, MO (setM .i64 ((l.take i).map Seq.Stop.id)), true⟩]) (I := fun i => i ≤ l.length ∧ ((l.take i).map Seq.Stop.id).Nodup ∧ Seq.wrongF [] 0 l = Seq.wrongF ((l.take i).map Seq.Stop.id) i (l.drop i)) (μ := fun i => l.length - i) (s0 := 0)
  · exact ⟨Nat.zero_le _, by simp, by simp⟩
  · exact fS_
  · exact hS_
  rintro i ⟨hi, hnd, hw0⟩
  by_cases hlt : i < l.length
  · obtain ⟨s, hx⟩ : ∃ s, l[i]? = some s := ⟨_, List.getElem?_eq_getElem hlt⟩
    obtain ⟨b, off, cc, e, fz, rfl, hk, hp⟩ := hop (by omega)
    have h1 := hp.get hx
    rw [drop_at hx, Seq.wrongF] at hw0
    have e1 : (l.take (i + 1)).map Seq.Stop.id = (l.take i).map Seq.Stop.id ++ [s.id] := by rw [take_snoc hx]; simp
    by_cases hok : s.ok
    · have hok' := hok
      unfold Seq.Stop.ok at hok'
      by_cases hm : s.id ∈ (l.take i).map Seq.Stop.id
      · rw [if_neg (fun h => h.2 hm)] at hw0
        rw [hw0]
        repeat' (first | ((with_reducible first | apply o_move | apply o_assign | apply o_faddr0); exact rfl; exact rfl) | ((with_reducible apply gdo_load); first | refine wo_load (h := ?_) | refine wo_loadAll (h := ?_) | refine wo_loadC (h := ?_) | refine wo_ldV (h := ?_)) | ((with_reducible first | apply o_lss | apply o_gtr); exact rfl; exact rfl; exact rfl) | ((with_reducible apply o_pick_f); exact rfl; exact fF_; exact rfl; exact rfl) | ((with_reducible first | apply o_alloc | apply o_makeMap0); exact rfl; intro _) | ((with_reducible apply gdo_store); first | refine wo_store1 (h := ?_) | refine wo_storeA (h := ?_)) | ((with_reducible apply gdo_lookup); refine wo_lookS (h := ?_)) | ((with_reducible apply o_idx); infer_instance; infer_instance; exact rfl; exact rfl; (first | exact rfl | omega); exact rfl; (first | assumption | omega | decide)) | ((with_reducible first | apply g_run); exact rfl; exact gG_) | ((with_reducible first | apply c_seq | apply c_block | apply c_region | apply c_nil | apply c_ret | apply c_exit | apply c_skip)) | ((with_reducible apply c_cond_t); exact rfl; exact tT_) | ((with_reducible first | apply e_then | apply e_then_ret | apply e_then_exit | apply e_in | apply e_in_ret | apply e_in_same)))
        apply r_body; apply res2 Try.results23; exact rV_; exact rV_; intro w' hw
        exact ⟨rfl, hw.below (by simp)⟩
      · rw [if_pos ⟨hok, hm⟩] at hw0
        repeat' (first | ((with_reducible first | apply o_move | apply o_assign | apply o_faddr0); exact rfl; exact rfl) | ((with_reducible apply gdo_load); first | refine wo_load (h := ?_) | refine wo_loadAll (h := ?_) | refine wo_loadC (h := ?_) | refine wo_ldV (h := ?_)) | ((with_reducible first | apply o_lss | apply o_gtr); exact rfl; exact rfl; exact rfl) | ((with_reducible apply o_add); exact rfl; exact rfl; exact rfl; (constructor <;> omega)) | ((with_reducible apply o_pick_f); exact rfl; exact fF_; exact rfl; exact rfl) | ((with_reducible first | apply o_alloc | apply o_makeMap0); exact rfl; intro _) | ((with_reducible apply gdo_store); first | refine wo_store1 (h := ?_) | refine wo_storeA (h := ?_)) | ((with_reducible apply gdo_lookup); refine wo_lookS (h := ?_)) | ((with_reducible apply gdo_mapUpdate); refine wo_mapNewS (h := ?_)) | ((with_reducible apply o_idx); infer_instance; infer_instance; exact rfl; exact rfl; (first | exact rfl | omega); exact rfl; (first | assumption | omega | decide)) | ((with_reducible first | apply g_run); exact rfl; exact gG_) | ((with_reducible first | apply c_seq | apply c_block | apply c_region | apply c_nil | apply c_ret | apply c_exit | apply c_skip)) | ((with_reducible apply c_cond_t); exact rfl; exact tT_) | ((with_reducible apply c_cond_f); exact rfl; exact fF_) | ((with_reducible first | apply e_then | apply e_then_ret | apply e_then_exit | apply e_in | apply e_in_ret | apply e_in_same)))
        refine l_again (i + 1) ⟨by omega, ?_, ?_⟩ (by omega) ?_ ?_
        · rw [e1]
          rw [List.nodup_append]
          refine ⟨hnd, by simp, fun a ha b hb e => ?_⟩
          simp at hb; subst hb; subst e; exact hm ha
        · rw [e1]; exact hw0
        · exact fS_
        · simp only [e1]; exact hS_
    · rw [if_neg (fun h => hok h.1)] at hw0
      rw [hw0]
      unfold Seq.Stop.ok at hok
      repeat' (first | ((with_reducible first | apply o_move | apply o_assign | apply o_faddr0); exact rfl; exact rfl) | ((with_reducible apply gdo_load); first | refine wo_load (h := ?_) | refine wo_loadAll (h := ?_) | refine wo_loadC (h := ?_) | refine wo_ldV (h := ?_)) | ((with_reducible first | apply o_lss | apply o_gtr); exact rfl; exact rfl; exact rfl) | ((with_reducible apply o_pick_t); exact rfl; exact tT_; exact rfl; exact rfl) | ((with_reducible apply o_pick_f); exact rfl; exact fF_; exact rfl; exact rfl) | ((with_reducible first | apply o_alloc | apply o_makeMap0); exact rfl; intro _) | ((with_reducible apply gdo_store); first | refine wo_store1 (h := ?_) | refine wo_storeA (h := ?_)) | ((with_reducible apply o_idx); infer_instance; infer_instance; exact rfl; exact rfl; (first | exact rfl | omega); exact rfl; (first | assumption | omega | decide)) | ((with_reducible first | apply g_run); exact rfl; exact gG_) | ((with_reducible apply g_skip); exact rfl; exact gG_; exact rfl) | ((with_reducible first | apply c_seq | apply c_block | apply c_region | apply c_nil | apply c_ret | apply c_exit | apply c_skip)) | ((with_reducible apply c_cond_t); exact rfl; exact tT_) | ((with_reducible first | apply e_then | apply e_then_ret | apply e_then_exit | apply e_in | apply e_in_ret | apply e_in_same)) | ((with_reducible apply g_split_d); exact rfl; intro hcond; rotate_left; intro hcond; rotate_left))
      all_goals first
        | (exfalso; omega)
        | (apply r_body; apply res2 Try.results23; exact rV_; exact rV_; intro w' hw; exact ⟨rfl, hw.below (by simp)⟩)
  · rw [List.drop_of_length_le (by omega), Seq.wrongF] at hw0
    rw [hw0]
    repeat' (first | ((with_reducible first | apply o_move | apply o_assign | apply o_faddr0); exact rfl; exact rfl) | ((with_reducible first | apply o_lss | apply o_gtr); exact rfl; exact rfl; exact rfl) | ((with_reducible first | apply c_seq | apply c_block | apply c_region | apply c_nil | apply c_ret | apply c_exit | apply c_skip)) | ((with_reducible apply c_cond_f); exact rfl; exact fF_) | ((with_reducible first | apply e_then | apply e_then_ret | apply e_then_exit | apply e_in | apply e_in_ret | apply e_in_same)))
    apply r_body; apply res2 Try.results23; exact rV_; exact rV_; intro w' hw
    exact ⟨rfl, hw.below (by simp)⟩
theorem over_calls {vc vf vs : Value} {caps fs ss : List Int} (w : World) (hc : SV w 1 encI vc caps) (hf : SV w 1 encI vf fs) (hs : SV w 1 encI vs ss) (nf : fs.length = caps.length) (ns : ss.length = caps.length) :
    Calls Try.prog 27 #[vc, vf, vs] w fun e w' => e = .returned (atV (Seq.overF 0 caps fs ss)) ∧ Below w.heap.size w w' := by
  obtain ⟨a0, c0, rfl, hc0, hop0⟩ := hc.open
  obtain ⟨a1, c1, rfl, hc1, hop1⟩ := hf.open
  obtain ⟨a2, c2, rfl, hc2, hop2⟩ := hs.open
  refine f_enter3 Try.func27 rfl Try.ntmps27 rfl (Rep.start w) ?_
  repeat' (first | ((with_reducible first | apply o_move | apply o_assign); exact rfl; exact rfl) | ((with_reducible apply o_len); infer_instance; exact rfl; exact rfl) | ((with_reducible first | apply c_seq | apply c_block | apply c_region | apply c_nil | apply c_ret | apply c_exit | apply c_skip)) | ((with_reducible first | apply e_then | apply e_then_ret | apply e_then_exit | apply e_in | apply e_in_ret | apply e_in_same)))
  apply c_loop (σ := Nat) (Fs := fun i => [(12, .int .i64 i), (11, .int .i64 caps.length), (10, .slice a0 caps.length c0), (1, .slice a1 fs.length c1), (2, .slice a2 ss.length c2)])
    (Ls := fun i => []) (I := fun i => i ≤ caps.length ∧ Seq.overF 0 caps fs ss = Seq.overF i (caps.drop i) (fs.drop i) (ss.drop i)) (μ := fun i => caps.length - i) (s0 := 0)
  · exact ⟨Nat.zero_le _, by simp⟩
  · exact fS_
  · exact hS_
  rintro i ⟨hi, hw0⟩
  by_cases hlt : i < caps.length
  · obtain ⟨c, hx⟩ : ∃ c, caps[i]? = some c := ⟨_, List.getElem?_eq_getElem hlt⟩
    obtain ⟨f, hy⟩ : ∃ f, fs[i]? = some f := ⟨_, List.getElem?_eq_getElem (by omega)⟩
    obtain ⟨s, hz⟩ : ∃ s, ss[i]? = some s := ⟨_, List.getElem?_eq_getElem (by omega)⟩
    obtain ⟨b0, o0, cc0, e0, fz0, rfl, hk0, hp0⟩ := hop0 (by omega)
    obtain ⟨b1, o1, cc1, e1, fz1, rfl, hk1, hp1⟩ := hop1 (by omega)
    obtain ⟨b2, o2, cc2, e2, fz2, rfl, hk2, hp2⟩ := hop2 (by omega)
    have h0 := hp0.one hx rfl
    have h1 := hp1.one hy rfl
    have h2 := hp2.one hz rfl
    rw [drop_at hx, drop_at hy, drop_at hz, Seq.overF] at hw0
    by_cases hb : c < f ∨ c < s
    · rw [if_pos hb] at hw0
      rw [hw0]
      repeat' (first | ((with_reducible first | apply o_move | apply o_assign); exact rfl; exact rfl) | ((with_reducible apply gdo_load); first | refine wo_load (h := ?_) | refine wo_loadAll (h := ?_) | refine wo_loadC (h := ?_) | refine wo_ldV (h := ?_)) | ((with_reducible first | apply o_lss | apply o_gtr); exact rfl; exact rfl; exact rfl) | ((with_reducible apply o_pick_t); exact rfl; exact tT_; exact rfl; exact rfl) | ((with_reducible apply o_pick_f); exact rfl; exact fF_; exact rfl; exact rfl) | ((with_reducible apply o_idx); infer_instance; infer_instance; exact rfl; exact rfl; (first | exact rfl | omega); exact rfl; (first | assumption | omega | decide)) | ((with_reducible first | apply g_run); exact rfl; exact gG_) | ((with_reducible apply g_skip); exact rfl; exact gG_; exact rfl) | ((with_reducible first | apply c_seq | apply c_block | apply c_region | apply c_nil | apply c_ret | apply c_exit | apply c_skip)) | ((with_reducible apply c_cond_t); exact rfl; exact tT_) | ((with_reducible first | apply e_then | apply e_then_ret | apply e_then_exit | apply e_in | apply e_in_ret | apply e_in_same)) | ((with_reducible apply g_split_d); exact rfl; intro hcond; rotate_left; intro hcond; rotate_left))
      all_goals first
        | (exfalso; omega)
        | (apply r_body; apply res2 Try.results27; exact rV_; exact rV_; intro w' hw; exact ⟨rfl, hw.below (by simp)⟩)
    · rw [if_neg hb] at hw0
      repeat' (first | ((with_reducible first | apply o_move | apply o_assign); exact rfl; exact rfl) | ((with_reducible apply gdo_load); first | refine wo_load (h := ?_) | refine wo_loadAll (h := ?_) | refine wo_loadC (h := ?_) | refine wo_ldV (h := ?_)) | ((with_reducible first | apply o_lss | apply o_gtr); exact rfl; exact rfl; exact rfl) | ((with_reducible apply o_add); exact rfl; exact rfl; exact rfl; (constructor <;> omega)) | ((with_reducible apply o_pick_f); exact rfl; exact fF_; exact rfl; exact rfl) | ((with_reducible apply o_idx); infer_instance; infer_instance; exact rfl; exact rfl; (first | exact rfl | omega); exact rfl; (first | assumption | omega | decide)) | ((with_reducible first | apply g_run); exact rfl; exact gG_) | ((with_reducible first | apply c_seq | apply c_block | apply c_region | apply c_nil | apply c_ret | apply c_exit | apply c_skip)) | ((with_reducible apply c_cond_t); exact rfl; exact tT_) | ((with_reducible apply c_cond_f); exact rfl; exact fF_) | ((with_reducible first | apply e_then | apply e_then_ret | apply e_then_exit | apply e_in | apply e_in_ret | apply e_in_same)))
      refine l_again (i + 1) ⟨by omega, hw0⟩ (by omega) ?_ ?_
      · exact fS_
      · exact hS_
  · have hz : Seq.overF i [] (fs.drop i) (ss.drop i) = none := by simp [Seq.overF]
    rw [List.drop_of_length_le (l := caps) (by omega), hz] at hw0
    rw [hw0]
    repeat' (first | ((with_reducible first | apply o_move | apply o_assign); exact rfl; exact rfl) | ((with_reducible first | apply o_lss | apply o_gtr); exact rfl; exact rfl; exact rfl) | ((with_reducible first | apply c_seq | apply c_block | apply c_region | apply c_nil | apply c_ret | apply c_exit | apply c_skip)) | ((with_reducible apply c_cond_f); exact rfl; exact fF_) | ((with_reducible first | apply e_then | apply e_then_ret | apply e_then_exit | apply e_in | apply e_in_ret | apply e_in_same)))
    apply r_body; apply res2 Try.results27; exact rV_; exact rV_; intro w' hw
    exact ⟨rfl, hw.below (by simp)⟩
/-- A copy in memory of its own. -/
theorem clone_calls {v : Value} {xs : List Int} {w : World} (hsv : SV w 1 encI v xs) (hn : 1 ≤ xs.length ∧ xs.length ≤ 1000000000) :
    Calls Try.prog 25 #[v] w fun e w' => ∃ v' N, e = .returned v' ∧ (∃ a cap, v' = .slice a xs.length cap ∧ OW 3 1 encI (.slice a xs.length cap) xs N ∧ ∀ x ∈ N, x.own = true) ∧ Rep w w' N ∧ ∀ x ∈ N, x.own = true := by
  obtain ⟨a0, c0, rfl, hc0, hop0⟩ := hsv.open
  obtain ⟨b0, o0, cc0, e0, fz0, rfl, hk0, hp0⟩ := hop0 (by omega)
  refine f_enter1 Try.func25 rfl Try.ntmps25 rfl (Rep.start w) ?_
  repeat' (first | ((with_reducible first | apply o_move | apply o_assign); exact rfl; exact rfl) | ((with_reducible apply o_eql_n); infer_instance; exact rfl; exact rfl; exact rfl) | ((with_reducible apply gdo_buildSlice); refine wo_buildSlice (h := fun _ => ?_)) | ((with_reducible first | apply c_seq | apply c_block | apply c_region | apply c_nil | apply c_ret | apply c_exit | apply c_skip)) | ((with_reducible apply c_cond_f); exact rfl; exact fF_) | ((with_reducible first | apply e_then | apply e_then_ret | apply e_then_exit | apply e_in | apply e_in_ret | apply e_in_same)))
  rename_i b0
  have hx0 : OW 3 1 encI (.slice (some ⟨b0, 0, none⟩) 0 0) [] [⟨b0, Ce [] 3, true⟩] := OW.row (xs := []) (s := []) rfl ⟨Nat.le_refl _, by decide⟩
  repeat' (first | (apply o_appH (enc := encI); infer_instance; infer_instance; infer_instance; exact rfl; exact encI_len; exact encI_one; exact rfl; exact rfl; exact rfl; assumption; exact rL_; (exact fun w hw => (hsv.keep hw (by exact aO_))); (first | decide | (constructor <;> (try simp only [List.length_cons, List.length_nil]) <;> omega) | (constructor <;> simp <;> omega)); intro _ _ _ _) | ((with_reducible first | apply o_move | apply o_assign); exact rfl; exact rfl) | ((with_reducible first | apply c_seq | apply c_block | apply c_region | apply c_nil | apply c_ret | apply c_exit | apply c_skip)) | ((with_reducible first | apply e_then | apply e_then_ret | apply e_then_exit | apply e_in | apply e_in_ret | apply e_in_same)))
  rename_i a cap N hO
  simp only [List.nil_append] at hO ⊢
  apply r_body; apply res1 Try.results25; exact rV_; intro w' hw
  exact ⟨_, N, rfl, ⟨a, cap, rfl, hO, hO.own⟩, by simpa using hw, hO.own⟩
end Go.Proofs.Ythcoaljmgkhglaa
namespace Go.Proofs.Ythcoaljmgkhglaa
open Go Go.Sx Go.RowKit
section
variable {r : Option Nat} {P : Program} {n : Nat} {D : List Deferred} {w0 : World} {F : List (Nat × Value)} {L : List Ent} {Q : Exit → Act → World → Prop} {ops : Array Oper}
variable {d : Tmp} {ty : TypeId} {pos : String} {af : Array Edge} {rest : List Oper}
/-- A callee that is a value and leaves all that lay as it lay. -/
theorem o_call_pureV {f : FuncId} {fn : Func} [TC P f fn] {x : Operand} {caps : Array Value} {xs : List Operand} {vs : List Value} {ats : Array TypeId} {v : Value} (hx : ev F x = some (.func (.func f) #[] caps)) (hd : Nat.ble (d + 1) n = true) (hxs : Evs F xs vs)
    (hc : ∀ w, Rep w0 w L → Calls P f (vs.toArray ++ caps) w fun e w' => e = .returned v ∧ Below w.heap.size w w')
    (h : St n D w0 ((d, v) :: F) L (WL r P ops Q rest)) : St n D w0 F L (WL r P ops Q (⟨some d, .call ⟨.value x, xs.toArray, ats⟩, ty, pos, af, none⟩ :: rest)) :=
  o_call (x := x) (caps := caps) (Φ := fun w u w' => u = v ∧ Below w.heap.size w w') hx hd hxs (fun w hw => by
    refine (hc w hw).mono ?_
    rintro e w' ⟨rfl, hB⟩
    exact ⟨v, rfl, rfl, hB⟩) (fun w u hw a w' hΦ ha => by obtain ⟨rfl, hB⟩ := hΦ; exact h a w' ha (hw.grow hB))
end
theorem heap_keep {w w' : World} {L : List Ent} {b : Nat} {o : Obj} (hb : w.heap[b]? = some o) (hw : Rep w w' L) (ho : AO L) : w'.heap[b]? = some o := by
  rw [(hw.below ho).block b (Array.getElem?_eq_some_iff.1 hb).1]; exact hb
attribute [local irreducible] WL WC WQ WR St Exit.then Exit.inBlock Exit.noGoto bodyPost roundPost beginK YR RG BM Calls B AgainD MeetD
/-! ## values -/
def encPt (p : Ref.Pt) : List Value := [.int .i64 p.id, .int .i64 p.town, .int .i64 p.street, .int .i64 p.number, str p.letter, str p.unit, .int .i64 p.box, .int .i64 p.seq]
theorem encPt_len : ∀ x, (encPt x).length = 8 := fun _ => rfl
theorem encPt_one : ∀ x, (encPt x).all (·.oneCell') = true := fun _ => rfl
def encRg (g : Ref.Rg) : List Value := [.int .i64 g.town, .int .i64 g.street, .int .i64 g.low, .int .i64 g.high, .int .u8 g.par, str g.code, .int .i64 g.route]
theorem encRg_len : ∀ x, (encRg x).length = 7 := fun _ => rfl
theorem encRg_one : ∀ x, (encRg x).all (·.oneCell') = true := fun _ => rfl
@[reducible] def ptV (p : Ref.Pt) : Value := .agg #[.int .i64 p.id, .int .i64 p.town, .int .i64 p.street, .int .i64 p.number, str p.letter, str p.unit, .int .i64 p.box, .int .i64 p.seq]
@[reducible] def rgV (g : Ref.Rg) : Value := .agg #[.int .i64 g.town, .int .i64 g.street, .int .i64 g.low, .int .i64 g.high, .int .u8 g.par, str g.code, .int .i64 g.route]
def encB (x : UInt8) : List Value := [.int .u8 (x.toNat : Int)]
theorem encB_len : ∀ x, (encB x).length = 1 := fun _ => rfl
/-! ## small functions -/
theorem numb_calls (p : Ref.Pt) (w : World) : Calls Try.prog 13 #[ptV p] w fun e w' => e = .returned (.int .i64 (Ref.numF p)) ∧ Below w.heap.size w w' := by
  unfold Ref.numF
  by_cases h : p.street = 0
  · rw [if_pos h]
    refine f_enter1 Try.func13 rfl Try.ntmps13 rfl (Rep.start w) ?_
    repeat' (first | ((with_reducible apply c_cond_t); exact rfl; exact decide_eq_true (by omega)) | ((with_reducible first | apply o_assign | apply o_faddr0); exact rfl; exact rfl) | ((with_reducible apply gdo_load); first | refine wo_load (h := ?_) | refine wo_loadAll (h := ?_) | refine wo_loadC (h := ?_) | refine wo_ldV (h := ?_)) | ((with_reducible apply o_eql); exact rfl; exact rfl; exact rfl) | ((with_reducible apply o_box); exact rfl; exact rfl; exact rfl; intro _) | ((with_reducible first | apply c_seq | apply c_block | apply c_region | apply c_nil | apply c_ret | apply c_exit | apply c_skip)) | ((with_reducible first | apply e_then | apply e_then_ret | apply e_then_exit | apply e_in | apply e_in_ret | apply e_in_same)))
    apply r_body; apply res1 Try.results13; exact rV_; intro w' hw
    exact ⟨rfl, hw.below (by simp)⟩
  · rw [if_neg h]
    refine f_enter1 Try.func13 rfl Try.ntmps13 rfl (Rep.start w) ?_
    repeat' (first | ((with_reducible apply c_cond_f); exact rfl; exact decide_eq_false (by omega)) | ((with_reducible first | apply o_assign | apply o_faddr0); exact rfl; exact rfl) | ((with_reducible apply gdo_load); first | refine wo_load (h := ?_) | refine wo_loadAll (h := ?_) | refine wo_loadC (h := ?_) | refine wo_ldV (h := ?_)) | ((with_reducible apply o_eql); exact rfl; exact rfl; exact rfl) | ((with_reducible apply o_box); exact rfl; exact rfl; exact rfl; intro _) | ((with_reducible first | apply c_seq | apply c_block | apply c_region | apply c_nil | apply c_ret | apply c_exit | apply c_skip)) | ((with_reducible first | apply e_then | apply e_then_ret | apply e_then_exit | apply e_in | apply e_in_ret | apply e_in_same)))
    apply r_body; apply res1 Try.results13; exact rV_; intro w' hw
    exact ⟨rfl, hw.below (by simp)⟩
theorem nan_calls (n : Int) (w : World) : Calls Try.prog 32 #[.int .i64 n] w fun e w' => e = .returned (.bool false) ∧ Below w.heap.size w w' := by
  refine f_enter1 Try.func32 rfl Try.ntmps32 rfl (Rep.start w) ?_
  repeat' (first | ((with_reducible first | apply o_move | apply o_assign); exact rfl; exact rfl) | ((with_reducible apply o_neq); exact rfl; exact rfl; exact rfl) | ((with_reducible first | apply c_seq | apply c_block | apply c_region | apply c_nil | apply c_ret | apply c_exit | apply c_skip)) | ((with_reducible first | apply e_then | apply e_then_ret | apply e_then_exit | apply e_in | apply e_in_ret | apply e_in_same)))
  apply r_body; apply res1 Try.results32; exact rV_; intro w' hw
  exact ⟨by simp, hw.below (by simp)⟩
theorem cmp_more {a b : Int} (h : b < a) (w : World) : Calls Try.prog 19 #[.int .i64 a, .int .i64 b] w fun e w' => e = .returned (.int .i64 1) ∧ Below w.heap.size w w' := by
  refine f_enter2 Try.func19 rfl Try.ntmps19 rfl (Rep.start w) ?_
  repeat' (first | ((with_reducible apply c_cond_t); exact rfl; exact decide_eq_true (by omega)) | ((with_reducible apply c_cond_f); exact rfl; exact decide_eq_false (by omega)) | ((first | ((with_reducible apply o_call_pure (f := 32)); exact rfl) | ((with_reducible apply q_call_pure (f := 32)); exact rfl; kernel_rfl; exact rfl; exact sJ_)); exact eV_; exact (fun w _ => nan_calls _ w)) | ((with_reducible first | apply o_move | apply o_assign); exact rfl; exact rfl) | ((with_reducible first | apply o_lss | apply o_gtr); exact rfl; exact rfl; exact rfl) | ((with_reducible first | apply c_seq | apply c_block | apply c_region | apply c_nil | apply c_ret | apply c_exit | apply c_skip)) | ((with_reducible apply c_cond_f); exact rfl; exact fF_) | ((with_reducible first | apply e_then | apply e_then_ret | apply e_then_exit | apply e_in | apply e_in_ret | apply e_in_same)))
  apply r_body; apply res1 Try.results19; exact rV_; intro w' hw
  exact ⟨rfl, hw.below (by simp)⟩
theorem r2_more {p q : Ref.Pt} (h : q.seq < p.seq) (w : World) : Calls Try.prog 18 #[ptV p, ptV q] w fun e w' => e = .returned (.int .i64 1) ∧ Below w.heap.size w w' := by
  refine f_enter2 Try.func18 rfl Try.ntmps18 rfl (Rep.start w) ?_
  repeat' (first | ((first | ((with_reducible apply o_call_pure (f := 19)); exact rfl) | ((with_reducible apply q_call_pure (f := 19)); exact rfl; kernel_rfl; exact rfl; exact sJ_)); exact eV_; exact (fun w _ => cmp_more h w)) | ((with_reducible first | apply o_assign | apply o_faddr0); exact rfl; exact rfl) | ((with_reducible apply gdo_load); first | refine wo_load (h := ?_) | refine wo_loadAll (h := ?_) | refine wo_loadC (h := ?_) | refine wo_ldV (h := ?_)) | ((with_reducible apply o_box); exact rfl; exact rfl; exact rfl; intro _) | ((with_reducible first | apply c_seq | apply c_block | apply c_region | apply c_nil | apply c_ret | apply c_exit | apply c_skip)) | ((with_reducible first | apply e_then | apply e_then_ret | apply e_then_exit | apply e_in | apply e_in_ret | apply e_in_same)))
  apply r_body; apply res1 Try.results18; exact rV_; intro w' hw
  exact ⟨rfl, hw.below (by simp)⟩
end Go.Proofs.Ythcoaljmgkhglaa
namespace Go.Proofs.Ythcoaljmgkhglaa
open Go Go.Sx Go.RowKit
attribute [local irreducible] WL WC WQ WR St Exit.then Exit.inBlock Exit.noGoto bodyPost roundPost beginK YR RG BM Calls B AgainD MeetD
/-! ## ranges -/
theorem has_calls (g : Ref.Rg) {n : Int} (hn : 0 ≤ n ∧ n ≤ 255) (w : World) : Calls Try.prog 16 #[rgV g, .int .i64 n] w fun e w' => e = .returned (.bool (Ref.hasF g n)) ∧ Below w.heap.size w w' := by
  unfold Ref.hasF
  by_cases h0 : n < g.low ∨ g.high < n
  · rw [if_pos h0]
    by_cases h1 : n < g.low
    · refine f_enter2 Try.func16 rfl Try.ntmps16 rfl (Rep.start w) ?_
      repeat' (first | ((with_reducible apply o_pick_t); exact rfl; exact decide_eq_true (by omega); exact rfl; exact rfl) | ((with_reducible apply g_skip); exact rfl; exact decide_eq_true (by omega); exact rfl) | ((with_reducible first | apply o_move | apply o_assign | apply o_faddr0); exact rfl; exact rfl) | ((with_reducible apply gdo_load); first | refine wo_load (h := ?_) | refine wo_loadAll (h := ?_) | refine wo_loadC (h := ?_) | refine wo_ldV (h := ?_)) | ((with_reducible first | apply o_lss | apply o_gtr | apply o_eql); exact rfl; exact rfl; exact rfl) | ((with_reducible apply o_box); exact rfl; exact rfl; exact rfl; intro _) | ((with_reducible first | apply c_seq | apply c_block | apply c_region | apply c_nil | apply c_ret | apply c_exit | apply c_skip)) | ((with_reducible apply c_cond_t); exact rfl; exact tT_) | ((with_reducible first | apply e_then | apply e_then_ret | apply e_then_exit | apply e_in | apply e_in_ret | apply e_in_same)))
      apply r_body; apply res1 Try.results16; exact rV_; intro w' hw
      exact ⟨rfl, hw.below (by simp)⟩
    · refine f_enter2 Try.func16 rfl Try.ntmps16 rfl (Rep.start w) ?_
      repeat' (first | ((with_reducible apply c_cond_t); exact rfl; exact decide_eq_true (by omega)) | ((with_reducible apply o_pick_f); exact rfl; exact decide_eq_false (by omega); exact rfl; exact rfl) | ((with_reducible apply g_run); exact rfl; exact decide_eq_false (by omega)) | ((with_reducible first | apply o_move | apply o_assign | apply o_faddr0); exact rfl; exact rfl) | ((with_reducible apply gdo_load); first | refine wo_load (h := ?_) | refine wo_loadAll (h := ?_) | refine wo_loadC (h := ?_) | refine wo_ldV (h := ?_)) | ((with_reducible first | apply o_lss | apply o_gtr | apply o_eql); exact rfl; exact rfl; exact rfl) | ((with_reducible apply o_box); exact rfl; exact rfl; exact rfl; intro _) | ((with_reducible first | apply c_seq | apply c_block | apply c_region | apply c_nil | apply c_ret | apply c_exit | apply c_skip)) | ((with_reducible first | apply e_then | apply e_then_ret | apply e_then_exit | apply e_in | apply e_in_ret | apply e_in_same)))
      apply r_body; apply res1 Try.results16; exact rV_; intro w' hw
      exact ⟨rfl, hw.below (by simp)⟩
  rw [if_neg h0]
  by_cases h1 : g.par = 0
  · rw [if_pos h1]
    refine f_enter2 Try.func16 rfl Try.ntmps16 rfl (Rep.start w) ?_
    repeat' (first | ((with_reducible apply c_cond_t); exact rfl; exact decide_eq_true (by omega)) | ((with_reducible apply c_cond_f); exact rfl; exact decide_eq_false (by omega)) | ((with_reducible apply o_pick_f); exact rfl; exact decide_eq_false (by omega); exact rfl; exact rfl) | ((with_reducible apply g_run); exact rfl; exact decide_eq_false (by omega)) | ((with_reducible first | apply o_move | apply o_assign | apply o_faddr0); exact rfl; exact rfl) | ((with_reducible apply gdo_load); first | refine wo_load (h := ?_) | refine wo_loadAll (h := ?_) | refine wo_loadC (h := ?_) | refine wo_ldV (h := ?_)) | ((with_reducible first | apply o_lss | apply o_gtr | apply o_eql); exact rfl; exact rfl; exact rfl) | ((with_reducible apply o_box); exact rfl; exact rfl; exact rfl; intro _) | ((with_reducible first | apply c_seq | apply c_block | apply c_region | apply c_nil | apply c_ret | apply c_exit | apply c_skip)) | ((with_reducible first | apply e_then | apply e_then_ret | apply e_then_exit | apply e_in | apply e_in_ret | apply e_in_same)))
    apply r_body; apply res1 Try.results16; exact rV_; intro w' hw
    exact ⟨rfl, hw.below (by simp)⟩
  rw [if_neg h1]
  by_cases h2 : g.par = 1
  · rw [if_pos h2]
    refine f_enter2 Try.func16 rfl Try.ntmps16 rfl (Rep.start w) ?_
    repeat' (first | ((with_reducible apply c_cond_t); exact rfl; exact decide_eq_true (by omega)) | ((with_reducible apply c_cond_f); exact rfl; exact decide_eq_false (by omega)) | ((with_reducible apply o_pick_f); exact rfl; exact decide_eq_false (by omega); exact rfl; exact rfl) | ((with_reducible apply g_run); exact rfl; exact decide_eq_false (by omega)) | ((with_reducible apply o_andE (v := n % 2)); exact rfl; exact rfl; exact rfl; omega; exact rfl) | ((with_reducible first | apply o_move | apply o_assign | apply o_faddr0); exact rfl; exact rfl) | ((with_reducible apply gdo_load); first | refine wo_load (h := ?_) | refine wo_loadAll (h := ?_) | refine wo_loadC (h := ?_) | refine wo_ldV (h := ?_)) | ((with_reducible first | apply o_lss | apply o_gtr | apply o_eql); exact rfl; exact rfl; exact rfl) | ((with_reducible apply o_box); exact rfl; exact rfl; exact rfl; intro _) | ((with_reducible first | apply c_seq | apply c_block | apply c_region | apply c_nil | apply c_ret | apply c_exit | apply c_skip)) | ((with_reducible first | apply e_then | apply e_then_ret | apply e_then_exit | apply e_in | apply e_in_ret | apply e_in_same)))
    apply r_body; apply res1 Try.results16; exact rV_; intro w' hw
    exact ⟨rfl, hw.below (by simp)⟩
  rw [if_neg h2]
  by_cases h3 : g.par = 2
  · rw [if_pos h3]
    refine f_enter2 Try.func16 rfl Try.ntmps16 rfl (Rep.start w) ?_
    repeat' (first | ((with_reducible apply c_cond_t); exact rfl; exact decide_eq_true (by omega)) | ((with_reducible apply c_cond_f); exact rfl; exact decide_eq_false (by omega)) | ((with_reducible apply o_pick_f); exact rfl; exact decide_eq_false (by omega); exact rfl; exact rfl) | ((with_reducible apply g_run); exact rfl; exact decide_eq_false (by omega)) | ((with_reducible apply o_andE (v := n % 2)); exact rfl; exact rfl; exact rfl; omega; exact rfl) | ((with_reducible first | apply o_move | apply o_assign | apply o_faddr0); exact rfl; exact rfl) | ((with_reducible apply gdo_load); first | refine wo_load (h := ?_) | refine wo_loadAll (h := ?_) | refine wo_loadC (h := ?_) | refine wo_ldV (h := ?_)) | ((with_reducible first | apply o_lss | apply o_gtr | apply o_eql); exact rfl; exact rfl; exact rfl) | ((with_reducible apply o_box); exact rfl; exact rfl; exact rfl; intro _) | ((with_reducible first | apply c_seq | apply c_block | apply c_region | apply c_nil | apply c_ret | apply c_exit | apply c_skip)) | ((with_reducible first | apply e_then | apply e_then_ret | apply e_then_exit | apply e_in | apply e_in_ret | apply e_in_same)))
    apply r_body; apply res1 Try.results16; exact rV_; intro w' hw
    exact ⟨rfl, hw.below (by simp)⟩
  · rw [if_neg h3]
    refine f_enter2 Try.func16 rfl Try.ntmps16 rfl (Rep.start w) ?_
    repeat' (first | ((with_reducible apply c_cond_f); exact rfl; exact decide_eq_false (by omega)) | ((with_reducible apply o_pick_f); exact rfl; exact decide_eq_false (by omega); exact rfl; exact rfl) | ((with_reducible apply g_run); exact rfl; exact decide_eq_false (by omega)) | ((with_reducible first | apply o_move | apply o_assign | apply o_faddr0); exact rfl; exact rfl) | ((with_reducible apply gdo_load); first | refine wo_load (h := ?_) | refine wo_loadAll (h := ?_) | refine wo_loadC (h := ?_) | refine wo_ldV (h := ?_)) | ((with_reducible first | apply o_lss | apply o_gtr | apply o_eql); exact rfl; exact rfl; exact rfl) | ((with_reducible apply o_box); exact rfl; exact rfl; exact rfl; intro _) | ((with_reducible first | apply c_seq | apply c_block | apply c_region | apply c_nil | apply c_ret | apply c_exit | apply c_skip)) | ((with_reducible first | apply e_then | apply e_then_ret | apply e_then_exit | apply e_in | apply e_in_ret | apply e_in_same)))
    apply r_body; apply res1 Try.results16; exact rV_; intro w' hw
    exact ⟨rfl, hw.below (by simp)⟩
theorem r1_calls {g : Ref.Rg} {n : Int} {b : Nat} {q : Bool} (hn : 0 ≤ n ∧ n ≤ 255) (w : World) (hb : w.heap[b]? = some (Ce [.int .i64 n] 3)) (hq : Ref.hasF g n = q) : Calls Try.prog 15 #[rgV g, ptr b] w fun e w' => e = .returned (.bool q) ∧ Below w.heap.size w w' := by
  subst hq
  refine f_enter2 Try.func15 rfl Try.ntmps15 rfl (Rep.start w) ?_
  repeat' (first | ((first | ((with_reducible apply o_call_pure (f := 16)); exact rfl) | ((with_reducible apply q_call_pure (f := 16)); exact rfl; kernel_rfl; exact rfl; exact sJ_)); exact eV_; exact (fun w _ => has_calls g hn w)) | ((with_reducible apply o_assign); exact rfl; exact rfl) | ((with_reducible apply gdo_load); first | refine wo_load (h := ?_) | refine wo_loadAll (h := ?_) | refine wo_loadC (h := ?_) | refine wo_ldV (h := ?_)) | ((with_reducible apply o_box); exact rfl; exact rfl; exact rfl; intro _) | ((with_reducible first | apply c_seq | apply c_block | apply c_region | apply c_nil | apply c_ret | apply c_exit | apply c_skip)) | ((with_reducible first | apply e_then | apply e_then_ret | apply e_then_exit | apply e_in | apply e_in_ret | apply e_in_same)))
  apply r_body; apply res1 Try.results15; exact rV_; intro w' hw
  exact ⟨rfl, hw.below (by simp)⟩
theorem p1_is {p : Ref.Pt} {n : Int} {b : Nat} {q : Bool} (hq : decide (p.id = n) = q) (w : World) (hb : w.heap[b]? = some (Ce [.int .i64 n] 3)) : Calls Try.prog 21 #[ptV p, ptr b] w fun e w' => e = .returned (.bool q) ∧ Below w.heap.size w w' := by
  subst hq
  refine f_enter2 Try.func21 rfl Try.ntmps21 rfl (Rep.start w) ?_
  repeat' (first | ((with_reducible first | apply o_assign | apply o_faddr0); exact rfl; exact rfl) | ((with_reducible apply gdo_load); first | refine wo_load (h := ?_) | refine wo_loadAll (h := ?_) | refine wo_loadC (h := ?_) | refine wo_ldV (h := ?_)) | ((with_reducible apply o_eql); exact rfl; exact rfl; exact rfl) | ((with_reducible apply o_box); exact rfl; exact rfl; exact rfl; intro _) | ((with_reducible first | apply c_seq | apply c_block | apply c_region | apply c_nil | apply c_ret | apply c_exit | apply c_skip)) | ((with_reducible first | apply e_then | apply e_then_ret | apply e_then_exit | apply e_in | apply e_in_ret | apply e_in_same)))
  apply r_body; apply res1 Try.results21; exact rV_; intro w' hw
  exact ⟨rfl, hw.below (by simp)⟩
def firstRV : Option Ref.Rg → Value
  | some g => .tuple #[rgV g, .bool true]
  | none => .tuple #[rgV Ref.Rg.zero, .bool false]
theorem find_drop {α : Type} {p : α → Bool} {l : List α} {i : Nat} {x : α} (hx : l[i]? = some x) : (l.drop i).find? p = if p x = true then some x else (l.drop (i + 1)).find? p := by
  rw [drop_at hx, List.find?_cons]
  cases p x <;> rfl
theorem firstR_calls {v : Value} {rs : List Ref.Rg} {n : Int} {b : Nat} (hn : 0 ≤ n ∧ n ≤ 255) (w : World) (h : SV w 7 encRg v rs) (hb : w.heap[b]? = some (Ce [.int .i64 n] 3)) :
    Calls Try.prog 14 #[v, .func (.func 15) #[] #[ptr b]] w fun e w' => e = .returned (firstRV (rs.find? (Ref.hasF · n))) ∧ Below w.heap.size w w' := by
  obtain ⟨a0, c0, rfl, hc, -⟩ := h.open
  refine f_enter2 Try.func14 rfl Try.ntmps14 rfl (Rep.start w) ?_
  repeat' (first | ((with_reducible first | apply o_move | apply o_assign); exact rfl; exact rfl) | ((with_reducible apply o_alloc); exact rfl; intro _) | ((with_reducible apply o_len); infer_instance; exact rfl; exact rfl) | ((with_reducible first | apply c_seq | apply c_block | apply c_region | apply c_nil | apply c_ret | apply c_exit | apply c_skip)) | ((with_reducible first | apply e_then | apply e_then_ret | apply e_then_exit | apply e_in | apply e_in_ret | apply e_in_same)))
  rename_i b4
  apply c_loop (σ := Nat) (Fs := fun i => [(11, .int .i64 i), (10, .int .i64 rs.length), (9, .slice a0 rs.length c0), (5, .bool false), (4, ptr b4), (1, .func (.func 15) #[] #[ptr b])])
    (Ls := fun i => [⟨b4, Ce [.int .i64 0, .int .i64 0, .int .i64 0, .int .i64 0, .int .u8 0, str [], .int .i64 0] 37, true⟩]) (I := fun i => i ≤ rs.length ∧ rs.find? (Ref.hasF · n) = (rs.drop i).find? (Ref.hasF · n)) (μ := fun i => rs.length - i) (s0 := 0)
  · exact ⟨Nat.zero_le _, rfl⟩
  · exact fS_
  · exact hS_
  rintro i ⟨hi, hf⟩
  by_cases hlt : i < rs.length
  · obtain ⟨⟨g0, g1, g2, g3, g4, g5, g6⟩, hx⟩ : ∃ x, rs[i]? = some x := ⟨_, List.getElem?_eq_getElem hlt⟩
    rw [find_drop hx] at hf
    obtain ⟨be, oe, rfl⟩ := SV.ptr h hx
    cases hq : Ref.hasF ⟨g0, g1, g2, g3, g4, g5, g6⟩ n with
    | true =>
      rw [hq, if_pos rfl] at hf
      rw [hf]
      repeat' (first | ((with_reducible apply o_ldPV (l := [.int .i64 g0, .int .i64 g1, .int .i64 g2, .int .i64 g3, .int .u8 g4, str g5, .int .i64 g6])); infer_instance; infer_instance; exact rfl; (intro w' hw' j' v' hj'; exact SV.cell (h.keep hw' (by exact aO_)) hx hj'); exact rfl; exact rfl) | ((with_reducible apply o_call_pureV (f := 15)); exact rfl; exact rfl; exact eV_; exact (fun w hw => r1_calls hn w (heap_keep hb hw (by exact aO_)) hq)) | ((with_reducible first | apply o_move | apply o_assign); exact rfl; exact rfl) | ((with_reducible apply gdo_load); first | refine wo_load (h := ?_) | refine wo_loadAll (h := ?_) | refine wo_loadC (h := ?_) | refine wo_ldV (h := ?_)) | ((with_reducible apply o_lss); exact rfl; exact rfl; exact rfl) | ((with_reducible apply o_alloc); exact rfl; intro _) | ((with_reducible apply gdo_store); first | refine wo_store1 (h := ?_) | refine wo_storeA (h := ?_)) | ((with_reducible apply o_idx); infer_instance; infer_instance; exact rfl; exact rfl; (first | exact rfl | omega); exact rfl; (first | assumption | omega | decide)) | ((with_reducible first | apply c_seq | apply c_block | apply c_region | apply c_nil | apply c_ret | apply c_exit | apply c_skip)) | ((with_reducible apply c_cond_t); exact rfl; exact tT_) | ((with_reducible first | apply e_then | apply e_then_ret | apply e_then_exit | apply e_in | apply e_in_ret | apply e_in_same)))
      apply r_body; apply res2 Try.results14; exact rV_; exact rV_; intro w' hw
      exact ⟨rfl, hw.below (by simp)⟩
    | false =>
      rw [hq, if_neg (by simp)] at hf
      repeat' (first | ((with_reducible apply o_ldPV (l := [.int .i64 g0, .int .i64 g1, .int .i64 g2, .int .i64 g3, .int .u8 g4, str g5, .int .i64 g6])); infer_instance; infer_instance; exact rfl; (intro w' hw' j' v' hj'; exact SV.cell (h.keep hw' (by exact aO_)) hx hj'); exact rfl; exact rfl) | ((with_reducible apply o_call_pureV (f := 15)); exact rfl; exact rfl; exact eV_; exact (fun w hw => r1_calls hn w (heap_keep hb hw (by exact aO_)) hq)) | ((with_reducible first | apply o_move | apply o_assign); exact rfl; exact rfl) | ((with_reducible apply gdo_load); first | refine wo_load (h := ?_) | refine wo_loadAll (h := ?_) | refine wo_loadC (h := ?_) | refine wo_ldV (h := ?_)) | ((with_reducible apply o_lss); exact rfl; exact rfl; exact rfl) | ((with_reducible apply o_add); exact rfl; exact rfl; exact rfl; (constructor <;> omega)) | ((with_reducible apply o_alloc); exact rfl; intro _) | ((with_reducible apply gdo_store); first | refine wo_store1 (h := ?_) | refine wo_storeA (h := ?_)) | ((with_reducible apply o_idx); infer_instance; infer_instance; exact rfl; exact rfl; (first | exact rfl | omega); exact rfl; (first | assumption | omega | decide)) | ((with_reducible first | apply c_seq | apply c_block | apply c_region | apply c_nil | apply c_ret | apply c_exit | apply c_skip)) | ((with_reducible apply c_cond_t); exact rfl; exact tT_) | ((with_reducible apply c_cond_f); exact rfl; exact fF_) | ((with_reducible first | apply e_then | apply e_then_ret | apply e_then_exit | apply e_in | apply e_in_ret | apply e_in_same)))
      refine l_again (i + 1) ⟨show i + 1 ≤ rs.length by omega, hf⟩ (show rs.length - (i + 1) < rs.length - i by omega) ?_ ?_
      · exact fS_
      · exact hS_
  obtain rfl : i = rs.length := by omega
  rw [List.drop_length] at hf
  rw [hf]
  repeat' (first | ((with_reducible first | apply o_move | apply o_assign); exact rfl; exact rfl) | ((with_reducible apply gdo_load); first | refine wo_load (h := ?_) | refine wo_loadAll (h := ?_) | refine wo_loadC (h := ?_) | refine wo_ldV (h := ?_)) | ((with_reducible apply o_lss); exact rfl; exact rfl; exact rfl) | ((with_reducible apply o_alloc); exact rfl; intro _) | ((with_reducible apply gdo_store); first | refine wo_store1 (h := ?_) | refine wo_storeA (h := ?_)) | ((with_reducible first | apply c_seq | apply c_block | apply c_region | apply c_nil | apply c_ret | apply c_exit | apply c_skip)) | ((with_reducible apply c_cond_f); exact rfl; exact fF_) | ((with_reducible first | apply e_then | apply e_then_ret | apply e_then_exit | apply e_in | apply e_in_ret | apply e_in_same)))
  apply r_body; apply res2 Try.results14; exact rV_; exact rV_; intro w' hw
  exact ⟨rfl, hw.below (by simp)⟩
end Go.Proofs.Ythcoaljmgkhglaa
namespace Go.Sx
open Go Go.RowKit
section
variable {r : Option Nat} {P : Program} {n : Nat} {D : List Deferred} {w0 : World} {F : List (Nat × Value)} {L : List Ent} {Q : Exit → Act → World → Prop} {ops : Array Oper}
variable {d : Tmp} {ty : TypeId} {pos : String} {af : Array Edge} {rest : List Oper}
theorem o_toU {x : Operand} {m : Int} {s t : TypeId} {ds : TypeDesc} (hS : TU P s ds) (hT : TU P t (.int .u64)) (hx : ev F x = some (.int .i64 m)) (hr : 0 ≤ m ∧ m ≤ 9223372036854775807) (hd : Nat.ble (d + 1) n = true)
    (h : St n D w0 ((d, .int .u64 m) :: F) L (WL r P ops Q rest)) : St n D w0 F L (WL r P ops Q (⟨some d, .convert s t x, ty, pos, af, none⟩ :: rest)) :=
  o_conv (ds := ds) hx hd (by rw [IntWalk.u64_in _ (by omega)]; exact h)
theorem o_toI {x : Operand} {m : Int} {s t : TypeId} {ds : TypeDesc} (hS : TU P s ds) (hT : TU P t (.int .i64)) (hx : ev F x = some (.int .u64 m)) (hr : 0 ≤ m ∧ m ≤ 9223372036854775807) (hd : Nat.ble (d + 1) n = true)
    (h : St n D w0 ((d, .int .i64 m) :: F) L (WL r P ops Q rest)) : St n D w0 F L (WL r P ops Q (⟨some d, .convert s t x, ty, pos, af, none⟩ :: rest)) :=
  o_conv (ds := ds) hx hd (by rw [wrap_in (by omega) (by omega)]; exact h)
theorem o_half {x y : Operand} {k' : IntKind} {m v : Int} {t u : TypeId} (hx : ev F x = some (.int .u64 m)) (hy : ev F y = some (.int k' 1)) (e : m / 2 = v) (hr : 0 ≤ m) (hd : Nat.ble (d + 1) n = true)
    (h : St n D w0 ((d, .int .u64 v) :: F) L (WL r P ops Q rest)) : St n D w0 F L (WL r P ops Q (⟨some d, .binOp .shr t x y u, ty, pos, af, none⟩ :: rest)) :=
  o_shr hx hy hd (by decide) (by
    have e1 : min (1 : Int).toNat IntKind.u64.bits = 1 := rfl
    have e2 : m.fdiv (2 ^ 1) = m / 2 ^ 1 := Int.fdiv_eq_ediv_of_nonneg _ (by decide)
    rw [e1, e2, show (2 : Int) ^ 1 = 2 from rfl, e]; exact h)
end
end Go.Sx
namespace Go.Proofs.Ythcoaljmgkhglaa
open Go Go.Sx Go.RowKit
attribute [local irreducible] WL WC WQ WR WB WF QB St Exit.then Exit.inBlock Exit.noGoto bodyPost roundPost beginK YR RG BM Calls B AgainD MeetD
/-! ## points -/
def firstPV : Option Ref.Pt → Value
  | some p => .tuple #[ptV p, .bool true]
  | none => .tuple #[ptV Ref.Pt.zero, .bool false]
theorem firstP_calls {v : Value} {ps : List Ref.Pt} {n : Int} {b : Nat} (w : World) (h : SV w 8 encPt v ps) (hb : w.heap[b]? = some (Ce [.int .i64 n] 3)) :
    Calls Try.prog 20 #[v, .func (.func 21) #[] #[ptr b]] w fun e w' => e = .returned (firstPV (ps.find? fun p => decide (p.id = n))) ∧ Below w.heap.size w w' := by
  obtain ⟨a0, c0, rfl, hc, -⟩ := h.open
  refine f_enter2 Try.func20 rfl Try.ntmps20 rfl (Rep.start w) ?_
  repeat' (first | ((with_reducible first | apply o_move | apply o_assign); exact rfl; exact rfl) | ((with_reducible apply o_alloc); exact rfl; intro _) | ((with_reducible apply o_len); infer_instance; exact rfl; exact rfl) | ((with_reducible first | apply c_seq | apply c_block | apply c_region | apply c_nil | apply c_ret | apply c_exit | apply c_skip)) | ((with_reducible first | apply e_then | apply e_then_ret | apply e_then_exit | apply e_in | apply e_in_ret | apply e_in_same)))
  rename_i b4
  apply c_loop (σ := Nat) (Fs := fun i => [(11, .int .i64 i), (10, .int .i64 ps.length), (9, .slice a0 ps.length c0), (5, .bool false), (4, ptr b4), (1, .func (.func 21) #[] #[ptr b])])
    (Ls := fun i => [⟨b4, Ce [.int .i64 0, .int .i64 0, .int .i64 0, .int .i64 0, str [], str [], .int .i64 0, .int .i64 0] 40, true⟩]) (I := fun i => i ≤ ps.length ∧ (ps.find? fun p => decide (p.id = n)) = (ps.drop i).find? fun p => decide (p.id = n)) (μ := fun i => ps.length - i) (s0 := 0)
  · exact ⟨Nat.zero_le _, rfl⟩
  · exact fS_
  · exact hS_
  rintro i ⟨hi, hf⟩
  by_cases hlt : i < ps.length
  · obtain ⟨p, hx⟩ : ∃ x, ps[i]? = some x := ⟨_, List.getElem?_eq_getElem hlt⟩
    rw [find_drop hx] at hf
    obtain ⟨be, oe, rfl⟩ := SV.ptr h hx
    cases hq : decide (p.id = n) with
    | true =>
      rw [hq, if_pos rfl] at hf
      rw [hf]
      repeat' (first | ((with_reducible apply o_ldPV (l := encPt p)); infer_instance; infer_instance; exact rfl; (intro w' hw' j' v' hj'; exact SV.cell (h.keep hw' (by exact aO_)) hx hj'); exact rfl; exact rfl) | ((with_reducible apply o_call_pureV (f := 21)); exact rfl; exact rfl; exact eV_; exact (fun w hw => p1_is hq w (heap_keep hb hw (by exact aO_)))) | ((with_reducible first | apply o_move | apply o_assign); exact rfl; exact rfl) | ((with_reducible apply gdo_load); first | refine wo_load (h := ?_) | refine wo_loadAll (h := ?_) | refine wo_loadC (h := ?_) | refine wo_ldV (h := ?_)) | ((with_reducible apply o_lss); exact rfl; exact rfl; exact rfl) | ((with_reducible apply o_alloc); exact rfl; intro _) | ((with_reducible apply gdo_store); first | refine wo_store1 (h := ?_) | refine wo_storeA (h := ?_)) | ((with_reducible apply o_idx); infer_instance; infer_instance; exact rfl; exact rfl; (first | exact rfl | omega); exact rfl; (first | assumption | omega | decide)) | ((with_reducible first | apply c_seq | apply c_block | apply c_region | apply c_nil | apply c_ret | apply c_exit | apply c_skip)) | ((with_reducible apply c_cond_t); exact rfl; exact tT_) | ((with_reducible first | apply e_then | apply e_then_ret | apply e_then_exit | apply e_in | apply e_in_ret | apply e_in_same)))
      apply r_body; apply res2 Try.results20; exact rV_; exact rV_; intro w' hw
      exact ⟨rfl, hw.below (by simp)⟩
    | false =>
      rw [hq, if_neg (by simp)] at hf
      repeat' (first | ((with_reducible apply o_ldPV (l := encPt p)); infer_instance; infer_instance; exact rfl; (intro w' hw' j' v' hj'; exact SV.cell (h.keep hw' (by exact aO_)) hx hj'); exact rfl; exact rfl) | ((with_reducible apply o_call_pureV (f := 21)); exact rfl; exact rfl; exact eV_; exact (fun w hw => p1_is hq w (heap_keep hb hw (by exact aO_)))) | ((with_reducible first | apply o_move | apply o_assign); exact rfl; exact rfl) | ((with_reducible apply gdo_load); first | refine wo_load (h := ?_) | refine wo_loadAll (h := ?_) | refine wo_loadC (h := ?_) | refine wo_ldV (h := ?_)) | ((with_reducible apply o_lss); exact rfl; exact rfl; exact rfl) | ((with_reducible apply o_add); exact rfl; exact rfl; exact rfl; (constructor <;> omega)) | ((with_reducible apply o_alloc); exact rfl; intro _) | ((with_reducible apply gdo_store); first | refine wo_store1 (h := ?_) | refine wo_storeA (h := ?_)) | ((with_reducible apply o_idx); infer_instance; infer_instance; exact rfl; exact rfl; (first | exact rfl | omega); exact rfl; (first | assumption | omega | decide)) | ((with_reducible first | apply c_seq | apply c_block | apply c_region | apply c_nil | apply c_ret | apply c_exit | apply c_skip)) | ((with_reducible apply c_cond_t); exact rfl; exact tT_) | ((with_reducible apply c_cond_f); exact rfl; exact fF_) | ((with_reducible first | apply e_then | apply e_then_ret | apply e_then_exit | apply e_in | apply e_in_ret | apply e_in_same)))
      refine l_again (i + 1) ⟨show i + 1 ≤ ps.length by omega, hf⟩ (show ps.length - (i + 1) < ps.length - i by omega) ?_ ?_
      · exact fS_
      · exact hS_
  obtain rfl : i = ps.length := by omega
  rw [List.drop_length] at hf
  rw [hf]
  repeat' (first | ((with_reducible first | apply o_move | apply o_assign); exact rfl; exact rfl) | ((with_reducible apply gdo_load); first | refine wo_load (h := ?_) | refine wo_loadAll (h := ?_) | refine wo_loadC (h := ?_) | refine wo_ldV (h := ?_)) | ((with_reducible apply o_lss); exact rfl; exact rfl; exact rfl) | ((with_reducible apply o_alloc); exact rfl; intro _) | ((with_reducible apply gdo_store); first | refine wo_store1 (h := ?_) | refine wo_storeA (h := ?_)) | ((with_reducible first | apply c_seq | apply c_block | apply c_region | apply c_nil | apply c_ret | apply c_exit | apply c_skip)) | ((with_reducible apply c_cond_f); exact rfl; exact fF_) | ((with_reducible first | apply e_then | apply e_then_ret | apply e_then_exit | apply e_in | apply e_in_ret | apply e_in_same)))
  apply r_body; apply res2 Try.results20; exact rV_; exact rV_; intro w' hw
  exact ⟨rfl, hw.below (by simp)⟩
theorem point_calls {v0 v1 v2 v3 : Value} {ps : List Ref.Pt} {n : Int} {p : Ref.Pt} (hp : (ps.find? fun p => decide (p.id = n)) = some p) (w : World) (h : SV w 8 encPt v3 ps) :
    Calls Try.prog 7 #[.agg #[v0, v1, v2, v3], .int .i64 n] w fun e w' => e = .returned (.tuple #[ptV p, .bool true]) ∧ Below w.heap.size w w' := by
  have hc := fun (w' : World) (b : Nat) (h' : SV w' 8 encPt v3 ps) (hb : w'.heap[b]? = some (Ce [.int .i64 n] 3)) => firstP_calls w' h' hb
  rw [hp] at hc
  refine f_enter2 Try.func7 rfl Try.ntmps7 rfl (Rep.start w) ?_
  repeat' (first | ((first | ((with_reducible apply o_call_pure (f := 20)); exact rfl) | ((with_reducible apply q_call_pure (f := 20)); exact rfl; kernel_rfl; exact rfl; exact sJ_)); exact eV_; exact (fun w hw => hc w _ (h.keep hw (by exact aO_)) (hw.at (by exact aT_)))) | ((with_reducible first | apply o_assign | apply o_faddr0); exact rfl; exact rfl) | ((with_reducible apply gdo_load); first | refine wo_load (h := ?_) | refine wo_loadAll (h := ?_) | refine wo_loadC (h := ?_) | refine wo_ldV (h := ?_)) | ((with_reducible apply o_alloc); exact rfl; intro _) | ((with_reducible apply o_box); exact rfl; exact rfl; exact rfl; intro _) | ((with_reducible apply gdo_store); first | refine wo_store1 (h := ?_) | refine wo_storeA (h := ?_)) | ((with_reducible apply o_extract); exact rfl; exact rfl; exact rfl) | ((with_reducible apply gdo_makeFunc); refine wo_func (h := ?_)) | ((with_reducible first | apply c_seq | apply c_block | apply c_region | apply c_nil | apply c_ret | apply c_exit | apply c_skip)) | ((with_reducible first | apply e_then | apply e_then_ret | apply e_then_exit | apply e_in | apply e_in_ret | apply e_in_same)))
  apply r_body; apply res2 Try.results7; exact rV_; exact rV_; intro w' hw
  exact ⟨rfl, hw.below (by simp)⟩
/-! ## points that are in order stay as they are -/
theorem seq_lt {ps : List Ref.Pt} (hAl : Ref.Along ps) {i j : Nat} {p q : Ref.Pt} (hp : ps[i]? = some p) (hq : ps[j]? = some q) (hij : i < j) : p.seq < q.seq := by
  obtain ⟨h1, e1⟩ := List.getElem?_eq_some_iff.1 hp
  obtain ⟨h2, e2⟩ := List.getElem?_eq_some_iff.1 hq
  have := (List.pairwise_iff_getElem.1 hAl i j h1 h2 hij).2
  rw [e1, e2] at this
  exact this
theorem ins_calls {v : Value} {ps : List Ref.Pt} {a b : Nat} (hAl : Ref.Along ps) (hb : b ≤ ps.length ∧ ps.length ≤ 60 ∧ a ≤ 60) (w : World) (h : SV w 8 encPt v ps) :
    Calls Try.prog 37 #[v, .int .i64 a, .int .i64 b, .func (.func 18) #[] #[]] w fun e w' => e = .returned (.tuple #[]) ∧ Below w.heap.size w w' := by
  obtain ⟨a0, c0, rfl, hc, -⟩ := h.open
  refine f_enter4 Try.func37 rfl Try.ntmps37 rfl (Rep.start w) ?_
  repeat' (first | ((with_reducible first | apply o_move | apply o_assign); exact rfl; exact rfl) | ((with_reducible first | apply o_add | apply o_sub); exact rfl; exact rfl; exact rfl; (constructor <;> omega)) | ((with_reducible first | apply c_seq | apply c_block | apply c_region | apply c_nil | apply c_ret | apply c_exit | apply c_skip)) | ((with_reducible first | apply e_then | apply e_then_ret | apply e_then_exit | apply e_in | apply e_in_ret | apply e_in_same)))
  apply c_loop (σ := Nat) (Fs := fun i => [(8, .int .i64 i), (3, .func (.func 18) #[] #[]), (2, .int .i64 b), (1, .int .i64 a), (0, .slice a0 ps.length c0)])
    (Ls := fun i => []) (I := fun i => a < i) (μ := fun i => b - i) (s0 := a + 1)
  · exact Nat.lt_succ_self _
  · exact fS_
  · exact hS_
  intro i hi
  have hi : a < i := hi
  by_cases hlt : i < b
  · obtain ⟨ib, hib⟩ : ∃ ib, i = ib + 1 := ⟨i - 1, by omega⟩
    obtain ⟨ia, hia⟩ : ∃ ia, i = ia := ⟨_, rfl⟩
    obtain ⟨p, hx⟩ : ∃ x, ps[ia]? = some x := ⟨_, List.getElem?_eq_getElem (by omega)⟩
    obtain ⟨q, hy⟩ : ∃ x, ps[ib]? = some x := ⟨_, List.getElem?_eq_getElem (by omega)⟩
    have hpq := seq_lt hAl hy hx (by omega)
    obtain ⟨be, oe, rfl⟩ := SV.ptr h hx
    repeat' (first | ((with_reducible apply c_cond_t); exact rfl; exact decide_eq_true (by omega)) | ((with_reducible first | apply o_move | apply o_assign); exact rfl; exact rfl) | ((with_reducible first | apply o_lss | apply o_gtr); exact rfl; exact rfl; exact rfl) | ((with_reducible first | apply c_seq | apply c_block | apply c_region | apply c_nil | apply c_ret | apply c_exit | apply c_skip)) | ((with_reducible first | apply e_then | apply e_then_ret | apply e_then_exit | apply e_in | apply e_in_ret | apply e_in_same)))
    apply c_loop (σ := Unit) (Fs := fun _ => [(9, .int .i64 i), (8, .int .i64 i), (3, .func (.func 18) #[] #[]), (2, .int .i64 b), (1, .int .i64 a), (0, .slice (some ⟨be, oe, none⟩) ps.length c0)])
      (Ls := fun _ => []) (I := fun _ => True) (μ := fun _ => 0) (s0 := ())
    · exact trivial
    · exact fS_
    · exact hS_
    intro _ _
    repeat' (first | ((with_reducible apply c_cond_f); exact rfl; exact decide_eq_false (by omega)) | ((with_reducible first | apply o_idx (m := ia) | apply q_idx (m := ia)); infer_instance; infer_instance; exact rfl; exact rfl; omega; exact rfl; omega) | ((with_reducible first | apply o_idx (m := ib) | apply q_idx (m := ib)); infer_instance; infer_instance; exact rfl; exact rfl; omega; exact rfl; omega) | ((with_reducible apply q_ldPV (l := encPt p)); infer_instance; infer_instance; exact rfl; exact rfl; exact sJ_; (intro w' hw' j' v' hj'; exact SV.cell (h.keep hw' (by exact aO_)) hx hj'); exact rfl; exact rfl) | ((with_reducible apply q_ldPV (l := encPt q)); infer_instance; infer_instance; exact rfl; exact rfl; exact sJ_; (intro w' hw' j' v' hj'; exact SV.cell (h.keep hw' (by exact aO_)) hy hj'); exact rfl; exact rfl) | ((with_reducible apply q_call_pureV (f := 18)); exact rfl; exact rfl; kernel_rfl; exact rfl; exact sJ_; exact eV_; exact (fun w hw => r2_more hpq w)) | ((with_reducible first | apply o_move | apply o_assign); exact rfl; exact rfl) | ((with_reducible first | apply o_add | apply o_sub); exact rfl; exact rfl; exact rfl; (constructor <;> omega)) | ((with_reducible first | apply c_seq | apply c_block | apply c_region | apply c_nil | apply c_ret | apply c_exit | apply c_skip)) | ((with_reducible first | apply e_then | apply e_then_ret | apply e_then_exit | apply e_in | apply e_in_ret | apply e_in_same)) | ((with_reducible apply c_regionD0 (id := 4) []); kernel_rfl; kernel_rfl) | ((with_reducible apply q_nil); try simp only [ents, List.cons_append, List.nil_append]) | ((with_reducible first | apply q_move | apply q_assign); exact rfl; exact rfl) | ((with_reducible first | apply q_lss | apply q_gtr); exact rfl; exact rfl; exact rfl) | ((with_reducible first | apply q_add | apply q_sub); exact rfl; exact rfl; exact rfl; (constructor <;> omega)) | ((with_reducible apply q_pick_t); exact rfl; exact tT_; exact rfl; exact rfl) | ((with_reducible first | apply h_run); exact rfl; exact gG_))
    refine l_again (i + 1) (show a < i + 1 by omega) (show b - (i + 1) < b - i by omega) ?_ ?_
    · exact fS_
    · exact hS_
  repeat' (first | ((with_reducible apply c_cond_f); exact rfl; exact decide_eq_false (by omega)) | ((with_reducible first | apply o_move | apply o_assign); exact rfl; exact rfl) | ((with_reducible first | apply o_lss | apply o_gtr); exact rfl; exact rfl; exact rfl) | ((with_reducible first | apply c_seq | apply c_block | apply c_region | apply c_nil | apply c_ret | apply c_exit | apply c_skip)) | ((with_reducible first | apply e_then | apply e_then_ret | apply e_then_exit | apply e_in | apply e_in_ret | apply e_in_same)))
  apply r_body'; apply res0 Try.results37; intro w' hw
  exact ⟨rfl, hw.below (by simp)⟩
set_option maxHeartbeats 4000000 in
theorem sym_calls {v : Value} {ps : List Ref.Pt} (hAl : Ref.Along ps) (hl : ps.length ≤ 60) : ∀ (k a m b : Nat), b - a ≤ k → a < m → m < b → b ≤ ps.length → ∀ w, SV w 8 encPt v ps →
    Calls Try.prog 38 #[v, .int .i64 a, .int .i64 m, .int .i64 b, .func (.func 18) #[] #[]] w fun e w' => e = .returned (.tuple #[]) ∧ Below w.heap.size w w' := by
  intro k
  induction k with
  | zero => intro a m b h1 h2 h3; omega
  | succ k ih =>
    intro a m b h1 h2 h3 h4 w h
    obtain ⟨a0, c0, rfl, hc, -⟩ := h.open
    obtain ⟨be, oe, rfl⟩ := SV.ptr h (List.getElem?_eq_getElem (show a < ps.length by omega))
    by_cases hma : m = a + 1
    · subst hma
      refine f_enter5 Try.func38 rfl Try.ntmps38 rfl (Rep.start w) ?_
      repeat' (first | ((with_reducible apply c_cond_t); exact rfl; exact decide_eq_true (by omega)) | ((with_reducible first | apply o_move | apply o_assign | apply o_conv); exact rfl; exact rfl) | ((with_reducible first | apply o_lss | apply o_gtr | apply o_eql); exact rfl; exact rfl; exact rfl) | ((with_reducible first | apply o_add | apply o_sub); exact rfl; exact rfl; exact rfl; (constructor <;> omega)) | ((with_reducible first | apply c_seq | apply c_block | apply c_region | apply c_nil | apply c_ret | apply c_exit | apply c_skip)) | ((with_reducible first | apply e_then | apply e_then_ret | apply e_then_exit | apply e_in | apply e_in_ret | apply e_in_same)))
      apply c_loop (σ := Nat) (Fs := fun j => [(11, .int .i64 j), (10, .int .i64 ((a + 1 : Nat) : Int)), (4, .func (.func 18) #[] #[]), (3, .int .i64 b), (2, .int .i64 ((a + 1 : Nat) : Int)), (1, .int .i64 a), (0, .slice (some ⟨be, oe, none⟩) ps.length c0)])
        (Ls := fun _ => []) (I := fun j => a + 1 ≤ j ∧ j ≤ b) (μ := fun j => j) (s0 := b)
      · exact ⟨by omega, Nat.le_refl _⟩
      · exact fS_
      · exact hS_
      rintro j ⟨hj1, hj2⟩
      by_cases hlt : a + 1 < j
      · obtain ⟨hn, hhn⟩ : ∃ hn : Nat, (a + 1 + j) / 2 = hn := ⟨_, rfl⟩
        obtain ⟨hh, hhh⟩ : ∃ hh : Int, (hn : Int) = hh := ⟨_, rfl⟩
        have hhe : (((a + 1 : Nat) : Int) + (j : Int)) / 2 = hh := by omega
        obtain ⟨ia, hia⟩ : ∃ ia, ia = hn := ⟨_, rfl⟩
        obtain ⟨ib, hib⟩ : ∃ ib, ib = a := ⟨_, rfl⟩
        obtain ⟨p, hx⟩ : ∃ x, ps[ia]? = some x := ⟨_, List.getElem?_eq_getElem (by omega)⟩
        obtain ⟨q, hy⟩ : ∃ x, ps[ib]? = some x := ⟨_, List.getElem?_eq_getElem (by omega)⟩
        have hpq := seq_lt hAl hy hx (by omega)
        as_aux_lemma =>
          repeat' (first | ((with_reducible apply c_cond_t); exact rfl; exact decide_eq_true (by omega)) | ((with_reducible apply c_cond_f); exact rfl; exact decide_eq_false (by omega)) | ((with_reducible apply o_toU); infer_instance; infer_instance; exact rfl; omega; exact rfl) | ((with_reducible apply o_half (v := hh)); exact rfl; exact rfl; exact hhe; omega; exact rfl) | ((with_reducible apply o_toI); infer_instance; infer_instance; exact rfl; omega; exact rfl) | ((with_reducible first | apply o_idx (m := ia) | apply q_idx (m := ia)); infer_instance; infer_instance; exact rfl; exact rfl; omega; exact rfl; omega) | ((with_reducible first | apply o_idx (m := ib) | apply q_idx (m := ib)); infer_instance; infer_instance; exact rfl; exact rfl; omega; exact rfl; omega) | ((with_reducible apply q_ldPV (l := encPt p)); infer_instance; infer_instance; exact rfl; exact rfl; exact sJ_; (intro w' hw' j' v' hj'; exact SV.cell (h.keep hw' (by exact aO_)) hx hj'); exact rfl; exact rfl) | ((with_reducible apply q_ldPV (l := encPt q)); infer_instance; infer_instance; exact rfl; exact rfl; exact sJ_; (intro w' hw' j' v' hj'; exact SV.cell (h.keep hw' (by exact aO_)) hy hj'); exact rfl; exact rfl) | ((with_reducible apply q_call_pureV (f := 18)); exact rfl; exact rfl; kernel_rfl; exact rfl; exact sJ_; exact eV_; exact (fun w hw => r2_more hpq w)) | ((with_reducible first | apply o_move | apply o_assign | apply o_conv); exact rfl; exact rfl) | ((with_reducible first | apply o_lss | apply o_gtr | apply o_eql); exact rfl; exact rfl; exact rfl) | ((with_reducible first | apply o_add | apply o_sub); exact rfl; exact rfl; exact rfl; (constructor <;> omega)) | ((with_reducible first | apply c_seq | apply c_block | apply c_region | apply c_nil | apply c_ret | apply c_exit | apply c_skip)) | ((with_reducible first | apply e_then | apply e_then_ret | apply e_then_exit | apply e_in | apply e_in_ret | apply e_in_same)) | ((with_reducible apply c_regionD0 (id := 5) []); kernel_rfl; kernel_rfl) | ((with_reducible apply q_nil); try simp only [ents, List.cons_append, List.nil_append]) | ((with_reducible first | apply q_move | apply q_assign | apply q_not_d); exact rfl; exact rfl) | ((with_reducible first | apply q_lss | apply q_gtr); exact rfl; exact rfl; exact rfl))
          refine l_again hn ⟨show a + 1 ≤ hn by omega, show hn ≤ b by omega⟩ (show hn < j by omega) ?_ ?_
          · (try dsimp only); rw [hhh]; exact fS_
          · exact hS_
      obtain rfl : j = a + 1 := by omega
      repeat' (first | ((with_reducible apply c_cond_f); exact rfl; exact decide_eq_false (by omega)) | ((with_reducible first | apply o_move | apply o_assign | apply o_conv); exact rfl; exact rfl) | ((with_reducible first | apply o_lss | apply o_gtr | apply o_eql); exact rfl; exact rfl; exact rfl) | ((with_reducible first | apply c_seq | apply c_block | apply c_region | apply c_nil | apply c_ret | apply c_exit | apply c_skip)) | ((with_reducible first | apply e_then | apply e_then_ret | apply e_then_exit | apply e_in | apply e_in_ret | apply e_in_same)))
      apply c_loop (σ := Unit) (Fs := fun _ => [(13, .int .i64 a), (10, .int .i64 ((a + 1 : Nat) : Int))]) (Ls := fun _ => []) (I := fun _ => True) (μ := fun _ => 0) (s0 := ())
      · exact trivial
      · exact fS_
      · exact hS_
      intro _ _
      repeat' (first | ((with_reducible apply c_cond_f); exact rfl; exact decide_eq_false (by omega)) | ((with_reducible first | apply o_move | apply o_assign | apply o_conv); exact rfl; exact rfl) | ((with_reducible first | apply o_lss | apply o_gtr | apply o_eql); exact rfl; exact rfl; exact rfl) | ((with_reducible first | apply o_add | apply o_sub); exact rfl; exact rfl; exact rfl; (constructor <;> omega)) | ((with_reducible first | apply c_seq | apply c_block | apply c_region | apply c_nil | apply c_ret | apply c_exit | apply c_skip)) | ((with_reducible first | apply e_then | apply e_then_ret | apply e_then_exit | apply e_in | apply e_in_ret | apply e_in_same)))
      apply r_body; apply res0 Try.results38; intro w' hw
      exact ⟨rfl, hw.below (by simp)⟩
    by_cases hbm : b = m + 1
    · subst hbm
      refine f_enter5 Try.func38 rfl Try.ntmps38 rfl (Rep.start w) ?_
      repeat' (first | ((with_reducible apply c_cond_t); exact rfl; exact decide_eq_true (by omega)) | ((with_reducible apply c_cond_f); exact rfl; exact decide_eq_false (by omega)) | ((with_reducible first | apply o_move | apply o_assign | apply o_conv); exact rfl; exact rfl) | ((with_reducible first | apply o_lss | apply o_gtr | apply o_eql); exact rfl; exact rfl; exact rfl) | ((with_reducible first | apply o_add | apply o_sub); exact rfl; exact rfl; exact rfl; (constructor <;> omega)) | ((with_reducible first | apply c_seq | apply c_block | apply c_region | apply c_nil | apply c_ret | apply c_exit | apply c_skip)) | ((with_reducible first | apply e_then | apply e_then_ret | apply e_then_exit | apply e_in | apply e_in_ret | apply e_in_same)))
      apply c_loop (σ := Nat) (Fs := fun i => [(15, .int .i64 m), (14, .int .i64 i), (4, .func (.func 18) #[] #[]), (2, .int .i64 m), (1, .int .i64 a), (0, .slice (some ⟨be, oe, none⟩) ps.length c0)])
        (Ls := fun _ => []) (I := fun i => a ≤ i ∧ i ≤ m) (μ := fun i => m - i) (s0 := a)
      · exact ⟨Nat.le_refl _, by omega⟩
      · exact fS_
      · exact hS_
      rintro i ⟨hi1, hi2⟩
      by_cases hlt : i < m
      · obtain ⟨hn, hhn⟩ : ∃ hn : Nat, (i + m) / 2 = hn := ⟨_, rfl⟩
        obtain ⟨hh, hhh⟩ : ∃ hh : Int, (hn : Int) = hh := ⟨_, rfl⟩
        have hhe : ((i : Int) + (m : Int)) / 2 = hh := by omega
        obtain ⟨ia, hia⟩ : ∃ ia, ia = m := ⟨_, rfl⟩
        obtain ⟨ib, hib⟩ : ∃ ib, ib = hn := ⟨_, rfl⟩
        obtain ⟨p, hx⟩ : ∃ x, ps[ia]? = some x := ⟨_, List.getElem?_eq_getElem (by omega)⟩
        obtain ⟨q, hy⟩ : ∃ x, ps[ib]? = some x := ⟨_, List.getElem?_eq_getElem (by omega)⟩
        have hpq := seq_lt hAl hy hx (by omega)
        as_aux_lemma =>
          repeat' (first | ((with_reducible apply c_cond_t); exact rfl; exact decide_eq_true (by omega)) | ((with_reducible apply o_toU); infer_instance; infer_instance; exact rfl; omega; exact rfl) | ((with_reducible apply o_half (v := hh)); exact rfl; exact rfl; exact hhe; omega; exact rfl) | ((with_reducible apply o_toI); infer_instance; infer_instance; exact rfl; omega; exact rfl) | ((with_reducible first | apply o_idx (m := ia) | apply q_idx (m := ia)); infer_instance; infer_instance; exact rfl; exact rfl; omega; exact rfl; omega) | ((with_reducible first | apply o_idx (m := ib) | apply q_idx (m := ib)); infer_instance; infer_instance; exact rfl; exact rfl; omega; exact rfl; omega) | ((with_reducible apply q_ldPV (l := encPt p)); infer_instance; infer_instance; exact rfl; exact rfl; exact sJ_; (intro w' hw' j' v' hj'; exact SV.cell (h.keep hw' (by exact aO_)) hx hj'); exact rfl; exact rfl) | ((with_reducible apply q_ldPV (l := encPt q)); infer_instance; infer_instance; exact rfl; exact rfl; exact sJ_; (intro w' hw' j' v' hj'; exact SV.cell (h.keep hw' (by exact aO_)) hy hj'); exact rfl; exact rfl) | ((with_reducible apply q_call_pureV (f := 18)); exact rfl; exact rfl; kernel_rfl; exact rfl; exact sJ_; exact eV_; exact (fun w hw => r2_more hpq w)) | ((with_reducible first | apply o_move | apply o_assign | apply o_conv); exact rfl; exact rfl) | ((with_reducible first | apply o_lss | apply o_gtr | apply o_eql); exact rfl; exact rfl; exact rfl) | ((with_reducible first | apply o_add | apply o_sub); exact rfl; exact rfl; exact rfl; (constructor <;> omega)) | ((with_reducible first | apply c_seq | apply c_block | apply c_region | apply c_nil | apply c_ret | apply c_exit | apply c_skip)) | ((with_reducible first | apply e_then | apply e_then_ret | apply e_then_exit | apply e_in | apply e_in_ret | apply e_in_same)) | ((with_reducible apply c_regionD0 (id := 17) []); kernel_rfl; kernel_rfl) | ((with_reducible apply q_nil); try simp only [ents, List.cons_append, List.nil_append]) | ((with_reducible first | apply q_move | apply q_assign | apply q_not_d); exact rfl; exact rfl) | ((with_reducible first | apply q_lss | apply q_gtr); exact rfl; exact rfl; exact rfl))
          refine l_again (hn + 1) ⟨show a ≤ hn + 1 by omega, show hn + 1 ≤ m by omega⟩ (show m - (hn + 1) < m - i by omega) ?_ ?_
          · (try dsimp only); rw [show ((hn + 1 : Nat) : Int) = hh + 1 by omega]; exact fS_
          · exact hS_
      obtain rfl : i = m := by omega
      repeat' (first | ((with_reducible apply c_cond_f); exact rfl; exact decide_eq_false (by omega)) | ((with_reducible first | apply o_move | apply o_assign | apply o_conv); exact rfl; exact rfl) | ((with_reducible first | apply o_lss | apply o_gtr | apply o_eql); exact rfl; exact rfl; exact rfl) | ((with_reducible first | apply c_seq | apply c_block | apply c_region | apply c_nil | apply c_ret | apply c_exit | apply c_skip)) | ((with_reducible first | apply e_then | apply e_then_ret | apply e_then_exit | apply e_in | apply e_in_ret | apply e_in_same)))
      apply c_loop (σ := Unit) (Fs := fun _ => [(17, .int .i64 i), (14, .int .i64 i)]) (Ls := fun _ => []) (I := fun _ => True) (μ := fun _ => 0) (s0 := ())
      · exact trivial
      · exact fS_
      · exact hS_
      intro _ _
      repeat' (first | ((with_reducible apply c_cond_f); exact rfl; exact decide_eq_false (by omega)) | ((with_reducible first | apply o_move | apply o_assign | apply o_conv); exact rfl; exact rfl) | ((with_reducible first | apply o_lss | apply o_gtr | apply o_eql); exact rfl; exact rfl; exact rfl) | ((with_reducible first | apply c_seq | apply c_block | apply c_region | apply c_nil | apply c_ret | apply c_exit | apply c_skip)) | ((with_reducible first | apply e_then | apply e_then_ret | apply e_then_exit | apply e_in | apply e_in_ret | apply e_in_same)))
      apply r_body; apply res0 Try.results38; intro w' hw
      exact ⟨rfl, hw.below (by simp)⟩
    obtain ⟨mid, hmid⟩ : ∃ mid : Nat, (a + b) / 2 = mid := ⟨_, rfl⟩
    obtain ⟨hh, hhh⟩ : ∃ hh : Int, (mid : Int) = hh := ⟨_, rfl⟩
    have hhe : ((a : Int) + (b : Int)) / 2 = hh := by omega
    by_cases hc1 : mid < m
    · have hrec := fun w' h' => ih mid m b (by omega) hc1 (by omega) h4 w' h'
      refine f_enter5 Try.func38 rfl Try.ntmps38 rfl (Rep.start w) ?_
      repeat' (first | ((with_reducible apply c_cond_t); exact rfl; exact decide_eq_true (by omega)) | ((with_reducible apply c_cond_f); exact rfl; exact decide_eq_false (by omega)) | ((with_reducible apply o_toU); infer_instance; infer_instance; exact rfl; omega; exact rfl) | ((with_reducible apply o_half (v := hh)); exact rfl; exact rfl; exact hhe; omega; exact rfl) | ((with_reducible apply o_toI); infer_instance; infer_instance; exact rfl; omega; exact rfl) | ((with_reducible first | apply o_move | apply o_assign | apply o_conv); exact rfl; exact rfl) | ((with_reducible first | apply o_lss | apply o_gtr | apply o_eql); exact rfl; exact rfl; exact rfl) | ((with_reducible first | apply o_add | apply o_sub); exact rfl; exact rfl; exact rfl; (constructor <;> omega)) | ((with_reducible first | apply c_seq | apply c_block | apply c_region | apply c_nil | apply c_ret | apply c_exit | apply c_skip)) | ((with_reducible first | apply e_then | apply e_then_ret | apply e_then_exit | apply e_in | apply e_in_ret | apply e_in_same)))
      apply c_loop (σ := Nat) (Fs := fun i => [(22, .int .i64 (hh + m - 1)), (21, .int .i64 hh), (20, .int .i64 i), (19, .int .i64 (hh + m)), (18, .int .i64 hh), (4, .func (.func 18) #[] #[]), (3, .int .i64 b), (2, .int .i64 m), (1, .int .i64 a), (0, .slice (some ⟨be, oe, none⟩) ps.length c0)])
        (Ls := fun _ => []) (I := fun i => mid + m - b ≤ i ∧ i ≤ mid) (μ := fun i => mid - i) (s0 := mid + m - b)
      · exact ⟨Nat.le_refl _, by omega⟩
      · (try dsimp only); rw [show ((mid + m - b : Nat) : Int) = hh + m - b by omega]; exact fS_
      · exact hS_
      rintro i ⟨hi1, hi2⟩
      by_cases hlt : i < mid
      · obtain ⟨hn, hhn⟩ : ∃ hn : Nat, (i + mid) / 2 = hn := ⟨_, rfl⟩
        obtain ⟨h9, h99⟩ : ∃ h9 : Int, (hn : Int) = h9 := ⟨_, rfl⟩
        have hhe9 : ((i : Int) + hh) / 2 = h9 := by omega
        obtain ⟨ia, hia⟩ : ∃ ia, ia = mid + m - 1 - hn := ⟨_, rfl⟩
        obtain ⟨ib, hib⟩ : ∃ ib, ib = hn := ⟨_, rfl⟩
        obtain ⟨p, hx⟩ : ∃ x, ps[ia]? = some x := ⟨_, List.getElem?_eq_getElem (by omega)⟩
        obtain ⟨q, hy⟩ : ∃ x, ps[ib]? = some x := ⟨_, List.getElem?_eq_getElem (by omega)⟩
        have hpq := seq_lt hAl hy hx (by omega)
        as_aux_lemma =>
          repeat' (first | ((with_reducible apply c_cond_t); exact rfl; exact decide_eq_true (by omega)) | ((with_reducible apply o_toU); infer_instance; infer_instance; exact rfl; omega; exact rfl) | ((with_reducible apply o_half (v := h9)); exact rfl; exact rfl; exact hhe9; omega; exact rfl) | ((with_reducible apply o_toI); infer_instance; infer_instance; exact rfl; omega; exact rfl) | ((with_reducible first | apply o_idx (m := ia) | apply q_idx (m := ia)); infer_instance; infer_instance; exact rfl; exact rfl; omega; exact rfl; omega) | ((with_reducible first | apply o_idx (m := ib) | apply q_idx (m := ib)); infer_instance; infer_instance; exact rfl; exact rfl; omega; exact rfl; omega) | ((with_reducible apply q_ldPV (l := encPt p)); infer_instance; infer_instance; exact rfl; exact rfl; exact sJ_; (intro w' hw' j' v' hj'; exact SV.cell (h.keep hw' (by exact aO_)) hx hj'); exact rfl; exact rfl) | ((with_reducible apply q_ldPV (l := encPt q)); infer_instance; infer_instance; exact rfl; exact rfl; exact sJ_; (intro w' hw' j' v' hj'; exact SV.cell (h.keep hw' (by exact aO_)) hy hj'); exact rfl; exact rfl) | ((with_reducible apply q_call_pureV (f := 18)); exact rfl; exact rfl; kernel_rfl; exact rfl; exact sJ_; exact eV_; exact (fun w hw => r2_more hpq w)) | ((with_reducible first | apply o_move | apply o_assign | apply o_conv); exact rfl; exact rfl) | ((with_reducible first | apply o_lss | apply o_gtr | apply o_eql); exact rfl; exact rfl; exact rfl) | ((with_reducible first | apply o_add | apply o_sub); exact rfl; exact rfl; exact rfl; (constructor <;> omega)) | ((with_reducible first | apply c_seq | apply c_block | apply c_region | apply c_nil | apply c_ret | apply c_exit | apply c_skip)) | ((with_reducible first | apply e_then | apply e_then_ret | apply e_then_exit | apply e_in | apply e_in_ret | apply e_in_same)) | ((with_reducible apply c_regionD0 (id := 35) []); kernel_rfl; kernel_rfl) | ((with_reducible apply q_nil); try simp only [ents, List.cons_append, List.nil_append]) | ((with_reducible first | apply q_move | apply q_assign | apply q_not_d); exact rfl; exact rfl) | ((with_reducible first | apply q_lss | apply q_gtr); exact rfl; exact rfl; exact rfl) | ((with_reducible first | apply q_add | apply q_sub); exact rfl; exact rfl; exact rfl; (constructor <;> omega)))
          refine l_again (hn + 1) ⟨show mid + m - b ≤ hn + 1 by omega, show hn + 1 ≤ mid by omega⟩ (show mid - (hn + 1) < mid - i by omega) ?_ ?_
          · (try dsimp only); rw [show ((hn + 1 : Nat) : Int) = h9 + 1 by omega]; exact fS_
          · exact hS_
      obtain rfl : i = mid := by omega
      rw [hhh]
      obtain ⟨en, hen⟩ : ∃ en : Int, hh + (m : Int) - hh = en := ⟨_, rfl⟩
      have hem : en = (m : Int) := by omega
      repeat' (first | ((with_reducible apply c_cond_t); exact rfl; exact decide_eq_true (by omega)) | ((with_reducible apply c_cond_f); exact rfl; exact decide_eq_false (by omega)) | ((with_reducible apply o_pick_t); exact rfl; exact decide_eq_true (by omega); exact rfl; exact rfl) | ((with_reducible apply g_run); exact rfl; exact decide_eq_true (by omega)) | ((with_reducible apply o_subE (v := en)); exact rfl; exact rfl; exact hen; omega; exact rfl) | ((with_reducible first | apply o_move | apply o_assign | apply o_conv); exact rfl; exact rfl) | ((with_reducible first | apply o_lss | apply o_gtr | apply o_eql); exact rfl; exact rfl; exact rfl) | ((with_reducible first | apply c_seq | apply c_block | apply c_region | apply c_nil | apply c_ret | apply c_exit | apply c_skip)) | ((with_reducible first | apply e_then | apply e_then_ret | apply e_then_exit | apply e_in | apply e_in_ret | apply e_in_same)))
      subst hem
      subst hhh
      repeat' (first | ((first | ((with_reducible apply o_call_pure (f := 38)); exact rfl) | ((with_reducible apply q_call_pure (f := 38)); exact rfl; kernel_rfl; exact rfl; exact sJ_)); exact eV_; exact (fun w hw => hrec w (h.keep hw (by exact aO_)))) | ((with_reducible first | apply c_seq | apply c_block | apply c_region | apply c_nil | apply c_ret | apply c_exit | apply c_skip)))
      apply r_body'; apply res0 Try.results38; intro w' hw
      exact ⟨rfl, hw.below (by simp)⟩
    · have hrec := fun (hlt : m < mid) w' h' => ih a m mid (by omega) h2 hlt (by omega) w' h'
      refine f_enter5 Try.func38 rfl Try.ntmps38 rfl (Rep.start w) ?_
      repeat' (first | ((with_reducible apply c_cond_f); exact rfl; exact decide_eq_false (by omega)) | ((with_reducible apply o_toU); infer_instance; infer_instance; exact rfl; omega; exact rfl) | ((with_reducible apply o_half (v := hh)); exact rfl; exact rfl; exact hhe; omega; exact rfl) | ((with_reducible apply o_toI); infer_instance; infer_instance; exact rfl; omega; exact rfl) | ((with_reducible first | apply o_move | apply o_assign | apply o_conv); exact rfl; exact rfl) | ((with_reducible first | apply o_lss | apply o_gtr | apply o_eql); exact rfl; exact rfl; exact rfl) | ((with_reducible first | apply o_add | apply o_sub); exact rfl; exact rfl; exact rfl; (constructor <;> omega)) | ((with_reducible first | apply c_seq | apply c_block | apply c_region | apply c_nil | apply c_ret | apply c_exit | apply c_skip)) | ((with_reducible first | apply e_then | apply e_then_ret | apply e_then_exit | apply e_in | apply e_in_ret | apply e_in_same)))
      apply c_loop (σ := Nat) (Fs := fun i => [(22, .int .i64 (hh + m - 1)), (21, .int .i64 m), (20, .int .i64 i), (19, .int .i64 (hh + m)), (18, .int .i64 hh), (4, .func (.func 18) #[] #[]), (3, .int .i64 b), (2, .int .i64 m), (1, .int .i64 a), (0, .slice (some ⟨be, oe, none⟩) ps.length c0)])
        (Ls := fun _ => []) (I := fun i => a ≤ i ∧ i ≤ m) (μ := fun i => m - i) (s0 := a)
      · exact ⟨Nat.le_refl _, by omega⟩
      · exact fS_
      · exact hS_
      rintro i ⟨hi1, hi2⟩
      by_cases hlt : i < m
      · obtain ⟨hn, hhn⟩ : ∃ hn : Nat, (i + m) / 2 = hn := ⟨_, rfl⟩
        obtain ⟨h9, h99⟩ : ∃ h9 : Int, (hn : Int) = h9 := ⟨_, rfl⟩
        have hhe9 : ((i : Int) + (m : Int)) / 2 = h9 := by omega
        obtain ⟨ia, hia⟩ : ∃ ia, ia = mid + m - 1 - hn := ⟨_, rfl⟩
        obtain ⟨ib, hib⟩ : ∃ ib, ib = hn := ⟨_, rfl⟩
        obtain ⟨p, hx⟩ : ∃ x, ps[ia]? = some x := ⟨_, List.getElem?_eq_getElem (by omega)⟩
        obtain ⟨q, hy⟩ : ∃ x, ps[ib]? = some x := ⟨_, List.getElem?_eq_getElem (by omega)⟩
        have hpq := seq_lt hAl hy hx (by omega)
        as_aux_lemma =>
          repeat' (first | ((with_reducible apply c_cond_t); exact rfl; exact decide_eq_true (by omega)) | ((with_reducible apply o_toU); infer_instance; infer_instance; exact rfl; omega; exact rfl) | ((with_reducible apply o_half (v := h9)); exact rfl; exact rfl; exact hhe9; omega; exact rfl) | ((with_reducible apply o_toI); infer_instance; infer_instance; exact rfl; omega; exact rfl) | ((with_reducible first | apply o_idx (m := ia) | apply q_idx (m := ia)); infer_instance; infer_instance; exact rfl; exact rfl; omega; exact rfl; omega) | ((with_reducible first | apply o_idx (m := ib) | apply q_idx (m := ib)); infer_instance; infer_instance; exact rfl; exact rfl; omega; exact rfl; omega) | ((with_reducible apply q_ldPV (l := encPt p)); infer_instance; infer_instance; exact rfl; exact rfl; exact sJ_; (intro w' hw' j' v' hj'; exact SV.cell (h.keep hw' (by exact aO_)) hx hj'); exact rfl; exact rfl) | ((with_reducible apply q_ldPV (l := encPt q)); infer_instance; infer_instance; exact rfl; exact rfl; exact sJ_; (intro w' hw' j' v' hj'; exact SV.cell (h.keep hw' (by exact aO_)) hy hj'); exact rfl; exact rfl) | ((with_reducible apply q_call_pureV (f := 18)); exact rfl; exact rfl; kernel_rfl; exact rfl; exact sJ_; exact eV_; exact (fun w hw => r2_more hpq w)) | ((with_reducible first | apply o_move | apply o_assign | apply o_conv); exact rfl; exact rfl) | ((with_reducible first | apply o_lss | apply o_gtr | apply o_eql); exact rfl; exact rfl; exact rfl) | ((with_reducible first | apply o_add | apply o_sub); exact rfl; exact rfl; exact rfl; (constructor <;> omega)) | ((with_reducible first | apply c_seq | apply c_block | apply c_region | apply c_nil | apply c_ret | apply c_exit | apply c_skip)) | ((with_reducible first | apply e_then | apply e_then_ret | apply e_then_exit | apply e_in | apply e_in_ret | apply e_in_same)) | ((with_reducible apply c_regionD0 (id := 35) []); kernel_rfl; kernel_rfl) | ((with_reducible apply q_nil); try simp only [ents, List.cons_append, List.nil_append]) | ((with_reducible first | apply q_move | apply q_assign | apply q_not_d); exact rfl; exact rfl) | ((with_reducible first | apply q_lss | apply q_gtr); exact rfl; exact rfl; exact rfl) | ((with_reducible first | apply q_add | apply q_sub); exact rfl; exact rfl; exact rfl; (constructor <;> omega)))
          refine l_again (hn + 1) ⟨show a ≤ hn + 1 by omega, show hn + 1 ≤ m by omega⟩ (show m - (hn + 1) < m - i by omega) ?_ ?_
          · (try dsimp only); rw [show ((hn + 1 : Nat) : Int) = h9 + 1 by omega]; exact fS_
          · exact hS_
      obtain rfl : i = m := by omega
      obtain ⟨en, hen⟩ : ∃ en : Int, hh + (i : Int) - (i : Int) = en := ⟨_, rfl⟩
      have hem : en = hh := by omega
      repeat' (first | ((with_reducible apply c_cond_f); exact rfl; exact decide_eq_false (by omega)) | ((with_reducible apply o_pick_t); exact rfl; exact decide_eq_true (by omega); exact rfl; exact rfl) | ((with_reducible apply o_pick_f); exact rfl; exact decide_eq_false (by omega); exact rfl; exact rfl) | ((with_reducible apply g_run); exact rfl; exact decide_eq_true (by omega)) | ((with_reducible apply g_skip); exact rfl; exact decide_eq_false (by omega); exact rfl) | ((with_reducible apply o_subE (v := en)); exact rfl; exact rfl; exact hen; omega; exact rfl) | ((with_reducible first | apply o_move | apply o_assign | apply o_conv); exact rfl; exact rfl) | ((with_reducible first | apply o_lss | apply o_gtr | apply o_eql); exact rfl; exact rfl; exact rfl) | ((with_reducible first | apply c_seq | apply c_block | apply c_region | apply c_nil | apply c_ret | apply c_exit | apply c_skip)) | ((with_reducible apply c_cond_f); exact rfl; exact fF_) | ((with_reducible first | apply e_then | apply e_then_ret | apply e_then_exit | apply e_in | apply e_in_ret | apply e_in_same)))
      subst hem
      subst hhh
      by_cases hlm : i < mid
      · repeat' (first | ((with_reducible apply c_cond_t); exact rfl; exact decide_eq_true (by omega)) | ((with_reducible apply o_pick_f); exact rfl; exact decide_eq_false (by omega); exact rfl; exact rfl) | ((with_reducible apply g_skip); exact rfl; exact decide_eq_false (by omega); exact rfl) | ((first | ((with_reducible apply o_call_pure (f := 38)); exact rfl) | ((with_reducible apply q_call_pure (f := 38)); exact rfl; kernel_rfl; exact rfl; exact sJ_)); exact eV_; exact (fun w hw => hrec hlm w (h.keep hw (by exact aO_)))) | ((with_reducible first | apply o_move | apply o_assign | apply o_conv); exact rfl; exact rfl) | ((with_reducible first | apply o_lss | apply o_gtr | apply o_eql); exact rfl; exact rfl; exact rfl) | ((with_reducible first | apply c_seq | apply c_block | apply c_region | apply c_nil | apply c_ret | apply c_exit | apply c_skip)) | ((with_reducible apply c_cond_f); exact rfl; exact fF_) | ((with_reducible first | apply e_then | apply e_then_ret | apply e_then_exit | apply e_in | apply e_in_ret | apply e_in_same)))
        apply r_body'; apply res0 Try.results38; intro w' hw
        exact ⟨rfl, hw.below (by simp)⟩
      · repeat' (first | ((with_reducible apply c_cond_f); exact rfl; exact decide_eq_false (by omega)) | ((with_reducible apply o_pick_f); exact rfl; exact decide_eq_false (by omega); exact rfl; exact rfl) | ((with_reducible apply g_skip); exact rfl; exact decide_eq_false (by omega); exact rfl) | ((with_reducible first | apply o_move | apply o_assign | apply o_conv); exact rfl; exact rfl) | ((with_reducible first | apply o_lss | apply o_gtr | apply o_eql); exact rfl; exact rfl; exact rfl) | ((with_reducible first | apply c_seq | apply c_block | apply c_region | apply c_nil | apply c_ret | apply c_exit | apply c_skip)) | ((with_reducible apply c_cond_f); exact rfl; exact fF_) | ((with_reducible first | apply e_then | apply e_then_ret | apply e_then_exit | apply e_in | apply e_in_ret | apply e_in_same)))
        apply r_body'; apply res0 Try.results38; intro w' hw
        exact ⟨rfl, hw.below (by simp)⟩
end Go.Proofs.Ythcoaljmgkhglaa
namespace Go.Proofs.Ythcoaljmgkhglaa
open Go Go.Sx Go.RowKit
attribute [local irreducible] WL WC WQ WR WB WF QB St Exit.then Exit.inBlock Exit.noGoto bodyPost roundPost beginK YR RG BM Calls B AgainD MeetD
/-! ## points that are in order stay as they are: the whole sort -/
theorem stable_calls {v : Value} {ps : List Ref.Pt} (hAl : Ref.Along ps) (hl : ps.length ≤ 60) (w : World) (h : SV w 8 encPt v ps) :
    Calls Try.prog 31 #[v, .int .i64 ps.length, .func (.func 18) #[] #[]] w fun e w' => e = .returned (.tuple #[]) ∧ Below w.heap.size w w' := by
  obtain ⟨a0, c0, rfl, hc, -⟩ := h.open
  refine f_enter3 Try.func31 rfl Try.ntmps31 rfl (Rep.start w) ?_
  repeat' (first | ((with_reducible first | apply o_move | apply o_assign); exact rfl; exact rfl) | ((with_reducible first | apply c_seq | apply c_block | apply c_region | apply c_nil | apply c_ret | apply c_exit | apply c_skip)) | ((with_reducible first | apply e_then | apply e_then_ret | apply e_then_exit | apply e_in | apply e_in_ret | apply e_in_same)))
  apply c_loop (σ := Nat) (Fs := fun a => [(8, .int .i64 ((a : Int) + 20)), (7, .int .i64 a), (6, .int .i64 20), (2, .func (.func 18) #[] #[]), (1, .int .i64 ps.length), (0, .slice a0 ps.length c0)])
    (Ls := fun _ => []) (I := fun a => a ≤ 60) (μ := fun a => 60 - a) (s0 := 0)
  · exact Nat.zero_le _
  · exact fS_
  · exact hS_
  intro a ha
  have ha : a ≤ 60 := ha
  by_cases hlt : a + 20 ≤ ps.length
  · have hins := fun (w : World) (h : SV w 8 encPt (.slice a0 ps.length c0) ps) => ins_calls (a := a) (b := a + 20) hAl (by omega) w h
    repeat' (first | ((with_reducible apply c_cond_t); exact rfl; exact decide_eq_true (by omega)) | ((first | ((with_reducible apply o_call_pure (f := 37)); exact rfl) | ((with_reducible apply q_call_pure (f := 37)); exact rfl; kernel_rfl; exact rfl; exact sJ_)); exact eV_; exact (fun w hw => hins w (h.keep hw (by exact aO_)))) | ((with_reducible first | apply o_move | apply o_assign); exact rfl; exact rfl) | ((with_reducible first | apply o_lss | apply o_leq); exact rfl; exact rfl; exact rfl) | ((with_reducible first | apply o_add | apply o_mul); exact rfl; exact rfl; exact rfl; (constructor <;> omega)) | ((with_reducible first | apply c_seq | apply c_block | apply c_region | apply c_nil | apply c_ret | apply c_exit | apply c_skip)) | ((with_reducible first | apply e_then | apply e_then_ret | apply e_then_exit | apply e_in | apply e_in_ret | apply e_in_same)))
    refine l_again (a + 20) (show a + 20 ≤ 60 by omega) (show 60 - (a + 20) < 60 - a by omega) ?_ ?_
    · exact fS_
    · exact hS_
  have hins := fun (w : World) (h : SV w 8 encPt (.slice a0 ps.length c0) ps) => ins_calls (a := a) (b := ps.length) hAl (by omega) w h
  repeat' (first | ((with_reducible apply c_cond_f); exact rfl; exact decide_eq_false (by omega)) | ((first | ((with_reducible apply o_call_pure (f := 37)); exact rfl) | ((with_reducible apply q_call_pure (f := 37)); exact rfl; kernel_rfl; exact rfl; exact sJ_)); exact eV_; exact (fun w hw => hins w (h.keep hw (by exact aO_)))) | ((with_reducible first | apply o_move | apply o_assign); exact rfl; exact rfl) | ((with_reducible first | apply o_lss | apply o_leq); exact rfl; exact rfl; exact rfl) | ((with_reducible first | apply c_seq | apply c_block | apply c_region | apply c_nil | apply c_ret | apply c_exit | apply c_skip)) | ((with_reducible first | apply e_then | apply e_then_ret | apply e_then_exit | apply e_in | apply e_in_ret | apply e_in_same)))
  clear hlt
  apply c_loop (σ := Nat) (Fs := fun z => [(6, .int .i64 z), (2, .func (.func 18) #[] #[]), (1, .int .i64 ps.length), (0, .slice a0 ps.length c0)])
    (Ls := fun _ => []) (I := fun z => 1 ≤ z ∧ z ≤ 200) (μ := fun z => 200 - z) (s0 := 20)
  · exact ⟨by omega, by omega⟩
  · exact fS_
  · exact hS_
  rintro z ⟨hz1, hz2⟩
  by_cases hlt : z < ps.length
  · obtain ⟨zz, hzz⟩ : ∃ zz : Nat, 2 * z = zz := ⟨_, rfl⟩
    repeat' (first | ((with_reducible apply c_cond_t); exact rfl; exact decide_eq_true (by omega)) | ((with_reducible first | apply o_move | apply o_assign); exact rfl; exact rfl) | ((with_reducible first | apply o_lss | apply o_leq); exact rfl; exact rfl; exact rfl) | ((with_reducible first | apply o_add | apply o_mul); exact rfl; exact rfl; exact rfl; (constructor <;> omega)) | ((with_reducible first | apply c_seq | apply c_block | apply c_region | apply c_nil | apply c_ret | apply c_exit | apply c_skip)) | ((with_reducible first | apply e_then | apply e_then_ret | apply e_then_exit | apply e_in | apply e_in_ret | apply e_in_same)))
    apply c_loop (σ := Nat) (Fs := fun a => [(8, .int .i64 ((a : Int) + 2 * (z : Int))), (7, .int .i64 a), (6, .int .i64 z), (2, .func (.func 18) #[] #[]), (1, .int .i64 ps.length), (0, .slice a0 ps.length c0)])
      (Ls := fun _ => []) (I := fun a => a ≤ 60) (μ := fun a => 60 - a) (s0 := 0)
    · exact Nat.zero_le _
    · (try dsimp only); rw [show ((0 : Nat) : Int) + 2 * (z : Int) = 2 * (z : Int) by omega]; exact fS_
    · exact hS_
    intro a ha
    have ha : a ≤ 60 := ha
    by_cases hlt2 : a + 2 * z ≤ ps.length
    · obtain ⟨a2, ha2⟩ : ∃ a2 : Nat, a + 2 * z = a2 := ⟨_, rfl⟩
      have hai : (a : Int) + 2 * (z : Int) = (a2 : Int) := by omega
      have hsym := fun (w : World) (h : SV w 8 encPt (.slice a0 ps.length c0) ps) => sym_calls hAl hl 60 a (a + z) a2 (by omega) (by omega) (by omega) (by omega) w h
      rw [hai]
      as_aux_lemma =>
        repeat' (first | ((with_reducible apply c_cond_t); exact rfl; exact decide_eq_true (by omega)) | ((first | ((with_reducible apply o_call_pure (f := 38)); exact rfl) | ((with_reducible apply q_call_pure (f := 38)); exact rfl; kernel_rfl; exact rfl; exact sJ_)); exact eV_; exact (fun w hw => hsym w (h.keep hw (by exact aO_)))) | ((with_reducible first | apply o_move | apply o_assign); exact rfl; exact rfl) | ((with_reducible first | apply o_lss | apply o_leq); exact rfl; exact rfl; exact rfl) | ((with_reducible first | apply o_add | apply o_mul); exact rfl; exact rfl; exact rfl; (constructor <;> omega)) | ((with_reducible first | apply c_seq | apply c_block | apply c_region | apply c_nil | apply c_ret | apply c_exit | apply c_skip)) | ((with_reducible first | apply e_then | apply e_then_ret | apply e_then_exit | apply e_in | apply e_in_ret | apply e_in_same)))
        refine l_again a2 (show a2 ≤ 60 by omega) (show 60 - a2 < 60 - a by omega) ?_ ?_
        · exact fS_
        · exact hS_
    · by_cases hlt3 : a + z < ps.length
      · have hsym := fun (w : World) (h : SV w 8 encPt (.slice a0 ps.length c0) ps) => sym_calls hAl hl 60 a (a + z) ps.length (by omega) (by omega) (by omega) (Nat.le_refl _) w h
        as_aux_lemma =>
          repeat' (first | ((with_reducible apply c_cond_t); exact rfl; exact decide_eq_true (by omega)) | ((with_reducible apply c_cond_f); exact rfl; exact decide_eq_false (by omega)) | ((first | ((with_reducible apply o_call_pure (f := 38)); exact rfl) | ((with_reducible apply q_call_pure (f := 38)); exact rfl; kernel_rfl; exact rfl; exact sJ_)); exact eV_; exact (fun w hw => hsym w (h.keep hw (by exact aO_)))) | ((with_reducible first | apply o_move | apply o_assign); exact rfl; exact rfl) | ((with_reducible first | apply o_lss | apply o_leq); exact rfl; exact rfl; exact rfl) | ((with_reducible first | apply o_add | apply o_mul); exact rfl; exact rfl; exact rfl; (constructor <;> omega)) | ((with_reducible first | apply c_seq | apply c_block | apply c_region | apply c_nil | apply c_ret | apply c_exit | apply c_skip)) | ((with_reducible first | apply e_then | apply e_then_ret | apply e_then_exit | apply e_in | apply e_in_ret | apply e_in_same)))
          refine l_again (z * 2) ⟨show 1 ≤ z * 2 by omega, show z * 2 ≤ 200 by omega⟩ (show 200 - z * 2 < 200 - z by omega) ?_ ?_
          · exact fS_
          · exact hS_
      · as_aux_lemma =>
          repeat' (first | ((with_reducible apply c_cond_f); exact rfl; exact decide_eq_false (by omega)) | ((with_reducible first | apply o_move | apply o_assign); exact rfl; exact rfl) | ((with_reducible first | apply o_lss | apply o_leq); exact rfl; exact rfl; exact rfl) | ((with_reducible first | apply o_add | apply o_mul); exact rfl; exact rfl; exact rfl; (constructor <;> omega)) | ((with_reducible first | apply c_seq | apply c_block | apply c_region | apply c_nil | apply c_ret | apply c_exit | apply c_skip)) | ((with_reducible first | apply e_then | apply e_then_ret | apply e_then_exit | apply e_in | apply e_in_ret | apply e_in_same)))
          refine l_again (z * 2) ⟨show 1 ≤ z * 2 by omega, show z * 2 ≤ 200 by omega⟩ (show 200 - z * 2 < 200 - z by omega) ?_ ?_
          · exact fS_
          · exact hS_
  repeat' (first | ((with_reducible apply c_cond_f); exact rfl; exact decide_eq_false (by omega)) | ((with_reducible first | apply o_move | apply o_assign); exact rfl; exact rfl) | ((with_reducible first | apply o_lss | apply o_leq); exact rfl; exact rfl; exact rfl) | ((with_reducible first | apply c_seq | apply c_block | apply c_region | apply c_nil | apply c_ret | apply c_exit | apply c_skip)) | ((with_reducible first | apply e_then | apply e_then_ret | apply e_then_exit | apply e_in | apply e_in_ret | apply e_in_same)))
  apply r_body'; apply res0 Try.results31; intro w' hw
  exact ⟨rfl, hw.below (by simp)⟩
theorem sorts_calls {v : Value} {ps : List Ref.Pt} (hAl : Ref.Along ps) (hl : ps.length ≤ 60) (w : World) (h : SV w 8 encPt v ps) :
    Calls Try.prog 17 #[v, .func (.func 18) #[] #[]] w fun e w' => e = .returned (.tuple #[]) ∧ Below w.heap.size w w' := by
  have hs := fun (w' : World) (h' : SV w' 8 encPt v ps) => stable_calls hAl hl w' h'
  obtain ⟨a0, c0, rfl, hc, -⟩ := h.open
  refine f_enter2 Try.func17 rfl Try.ntmps17 rfl (Rep.start w) ?_
  repeat' (first | ((first | ((with_reducible apply o_call_pure (f := 31)); exact rfl) | ((with_reducible apply q_call_pure (f := 31)); exact rfl; kernel_rfl; exact rfl; exact sJ_)); exact eV_; exact (fun w hw => hs w (h.keep hw (by exact aO_)))) | ((with_reducible apply o_move); exact rfl; exact rfl) | ((with_reducible apply o_len); infer_instance; exact rfl; exact rfl) | ((with_reducible first | apply c_seq | apply c_block | apply c_region | apply c_nil | apply c_ret | apply c_exit | apply c_skip)))
  apply r_body'; apply res0 Try.results17; intro w' hw
  exact ⟨rfl, hw.below (by simp)⟩
end Go.Proofs.Ythcoaljmgkhglaa
namespace Go.Sx
open Go Go.RowKit
/-- A type of arrays of two numbers. -/
class TA2 (P : Program) (kt : TypeId) : Prop where
  h : ∃ e i, P.underlying kt = some (.array 2 e) ∧ P.info? e = some i ∧ P.cellsOf e = 1 ∧ P.underlying e = some (.int .i64) ∧ (∀ w, (isAgg e).run P w = .ok false w)
/-- A key that is an array of two numbers. -/
def kA (p : Int × Int) : Value := kP p
theorem kA_equal {P : Program} {kt : TypeId} (hQ : TA2 P kt) (w : World) (a b : Int × Int) : (Op.equal kt (kA a) (kA b)).run P w = .ok (B (a.1 = b.1 ∧ a.2 = b.2)) w := by
  obtain ⟨e, i, hu, hi, hc, he, ha⟩ := hQ.h
  show (Op.equalIn (9999 + 1) kt (.agg #[.int .i64 a.1, .int .i64 a.2]) (.agg #[.int .i64 b.1, .int .i64 b.2])).run P w = _
  rw [run_equalIn_array (w := w) 9999 _ _ hu hi, hc]
  have p1 : ∀ x y : Int, (part e #[Value.int .i64 x, .int .i64 y] 0).run P w = .ok (.int .i64 x) w := fun x y => by simp [part, ha]
  have p2 : ∀ x y : Int, (part e #[Value.int .i64 x, .int .i64 y] 1).run P w = .ok (.int .i64 y) w := fun x y => by simp [part, ha]
  have q : ∀ x y : Int, (Op.equalIn 9999 e (.int .i64 x) (.int .i64 y)).run P w = .ok (x == y) w := fun x y => run_equalIn_int w 9998 e .i64 .i64 x y he
  rw [show List.range 2 = [0, 1] from rfl]
  by_cases h1 : a.1 = b.1
  · by_cases h2 : a.2 = b.2
    · rw [B_true ⟨h1, h2⟩]; simp [Op.eqItems, p1, p2, q, h1, h2]
    · rw [B_false (fun h => h2 h.2)]; simp [Op.eqItems, p1, p2, q, h1, h2]
  · rw [B_false (fun h => h1 h.1)]; simp [Op.eqItems, p1, p2, q, h1]
theorem run_askA {P : Program} {kt : TypeId} (hQ : TA2 P kt) (w : World) (a : Int × Int) : ∀ (es : List MapEntry) (i : Nat), (∀ e ∈ es, ∃ b, e.key = kA b) →
    ((Instr.findAsking kt (kA a) es i).run P w = .ok none w ∧ ∀ e ∈ es, e.key ≠ kA a) ∨ ∃ j e, (Instr.findAsking kt (kA a) es i).run P w = .ok (some (i + j, e.val)) w ∧ es[j]? = some e ∧ e.key = kA a
  | [], i, _ => .inl ⟨by simp [Instr.findAsking], by simp⟩
  | e :: es, i, hall => by
    obtain ⟨b, hb⟩ := hall e (by simp)
    have hr : (Op.equal kt (kA a) e.key).run P w = .ok (B (a.1 = b.1 ∧ a.2 = b.2)) w := by
      rw [hb]
      exact kA_equal hQ w a b
    by_cases hab : a.1 = b.1 ∧ a.2 = b.2
    · rw [B_true hab] at hr
      exact .inr ⟨0, e, by simp [Instr.findAsking, hr], rfl, by rw [hb, Prod.ext hab.1 hab.2]⟩
    · rw [B_false hab] at hr
      have hne : e.key ≠ kA a := fun h => hab (by
        have := kP_inj (hb.symm.trans h)
        subst this
        exact ⟨rfl, rfl⟩)
      rcases run_askA hQ w a es (i + 1) (fun y hy => hall y (by simp [hy])) with ⟨h1, h2⟩ | ⟨j, e', h1, h2, h3⟩
      · refine .inl ⟨by simp [Instr.findAsking, hr, h1], fun y hy => ?_⟩
        rcases List.mem_cons.1 hy with rfl | hy
        · exact hne
        · exact h2 y hy
      · exact .inr ⟨j + 1, e', by simp [Instr.findAsking, hr, h1, Nat.add_assoc, Nat.add_comm 1 j], by simpa using h2, h3⟩
instance {P : Program} {kt : TypeId} [hQ : TA2 P kt] : KL P kt kA where
  inj := fun a b h => kP_inj h
  check := fun em w a => by
    obtain ⟨e, i, hu, hi, hc, he, ha⟩ := hQ.h
    have p1 : (part e #[Value.int .i64 a.1, .int .i64 a.2] 0).run P w = .ok (.int .i64 a.1) w := by simp [part, ha]
    have p2 : (part e #[Value.int .i64 a.1, .int .i64 a.2] 1).run P w = .ok (.int .i64 a.2) w := by simp [part, ha]
    have c : ∀ x : Int, (Instr.checkKey em 9999 e (.int .i64 x)).run P w = .ok () w := fun x => MapKept.run_checkKey (k := .int .i64 x) he (show MapKept.IsKey (.int .i64) (.int .i64 x) from rfl) em 9998
    have hz := run_sizeOf (P := P) (w := w) hi
    rw [hc] at hz
    unfold Instr.checkKey kA kP
    simp [run_underlying hu, Std.Legacy.Range.forIn_eq_forIn_range', Std.Legacy.Range.size, List.range', hz, p1, p2, c, Result.andThen]
  find := fun w a es hall => by
    obtain ⟨e, i, hu, hi, hc, he, ha⟩ := hQ.h
    rw [run_findKey_eq w (by rw [hu])]
    rcases run_askA hQ w a es 0 hall with h | ⟨j, e, h1, h2, h3⟩
    · exact .inl h
    · exact .inr ⟨j, e, by simpa using h1, h2, h3⟩
  stays := fun w a => by
    simp [Instr.keyThatStays, kA, kP, Instr.sameBits]
end Go.Sx
