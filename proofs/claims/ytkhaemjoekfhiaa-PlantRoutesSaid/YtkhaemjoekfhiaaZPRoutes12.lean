/-
  PlantRoutes: whatever the numbers of stops and stackers and the picks, the law returns true, and its arguments read as they did. Conditions: none.
-/
import Derived.Test.YtkhaemjoekfhiaaZPRoutes3
import Derived.Test.YtkhaemjoekfhiaaZPRoutes10
import Derived.Test.YtkhaemjoekfhiaaZPRoutes11
import Derived.Test.YtkhaemjoekfhiaaZPRoutes9
import Derived.Test.YtkhaemjoekfhiaaZPRoutes2
set_option linter.unusedSimpArgs false
set_option linter.unusedVariables false
set_option linter.unusedSectionVars false
namespace Go.Proofs.Ytkhaemjoekfhiaa
open Go Go.Sx Go.RowKit
attribute [local irreducible] WL WC WQ WR WB WF QB St Exit.then Exit.inBlock Exit.noGoto bodyPost roundPost beginK YR RG BM Calls B AgainD MeetD
theorem st_restart {n : Nat} {D : List Deferred} {w0 : World} {F : List (Nat × Value)} {L : List Ent} {X : Act → World → Prop} (h : ∀ w1, Rep w0 w1 L → St n D w1 F [] X) : St n D w0 F L X := by
  unfold St at *
  exact fun a w ha hw => h w hw a w ha (Rep.start w)
theorem ow_lit {α : Type} {E : TypeId} {k n b : Nat} {enc : α → List Value} {l : List Value} (xs : List α) (hk : ∀ x, (enc x).length = k) (hl : l = xs.flatMap enc) (hn : n = xs.length) (hb : n ≤ 9223372036854775807) : OW E k enc (.slice (some ⟨b, 0, none⟩) n n) xs [⟨b, Ce l E, true⟩] := by
  subst hl hn
  have := OW.row (E := E) (k := k) (enc := enc) (b := b) (cap := xs.length) (xs := xs) (s := []) (by rw [List.append_nil, flat_len hk]) ⟨Nat.le_refl _, hb⟩
  rw [List.append_nil] at this
  exact this
theorem Shw.all {N : List Ent} {q : World → Prop} (h : Shw N q) {w0 w : World} (hw : Rep w0 w N) : q w := h w0 w N [] RemL.all hw
/-! ## PlantRoutes -/
set_option maxHeartbeats 32000000 in
set_option maxRecDepth 100000 in
theorem routes_calls {v2 : Value} {a8 b8 : Int} {bs : List UInt8} (w : World) (ha8 : 0 ≤ a8 ∧ a8 ≤ 255) (hb8 : 0 ≤ b8 ∧ b8 ≤ 255) (h2 : SV w 1 encB v2 bs) :
    Calls Try.prog 9 #[.int .u8 a8, .int .u8 b8, v2] w fun e w' => e = .returned (.bool true) ∧ Below w.heap.size w w' := by
  obtain ⟨ra, hra⟩ : ∃ r, a8 % 30 = r := ⟨_, rfl⟩
  obtain ⟨rb, hrb⟩ : ∃ r, b8 % 12 = r := ⟨_, rfl⟩
  obtain ⟨n, hn⟩ : ∃ n : Nat, 1 + ra = (n : Int) := ⟨(1 + ra).toNat, by omega⟩
  obtain ⟨s, hs⟩ : ∃ s : Nat, 1 + rb = (s : Int) := ⟨(1 + rb).toNat, by omega⟩
  have hn2 : 1 ≤ n ∧ n ≤ 30 := by omega
  have hs2 : 1 ≤ s ∧ s ≤ 12 := by omega
  have hmo := Plt.rt_mach s hs2
  have hro := Plt.rt_route n hn2.2
  have hsl := Plt.rtStops_len n
  obtain ⟨av, cv, rfl, hcv, -⟩ := h2.open
  refine f_enter3 Try.func9 rfl Try.ntmps9 rfl (Rep.start w) ?_
  repeat' (first | ((with_reducible first | apply o_move | apply o_assign | apply o_faddr0 | apply o_not_d | apply o_conv); exact rfl; exact rfl) | ((with_reducible first | apply c_seq | apply c_block | apply c_region | apply c_nil | apply c_ret | apply c_exit | apply c_skip)) | ((with_reducible first | apply e_then | apply e_then_ret | apply e_then_exit | apply e_in | apply e_in_ret | apply e_in_same)))
  apply c_loop (σ := Nat × (Option Addr × Nat) × List Ent) (Fs := fun t => [(8, .int .i64 t.1), (7, .slice t.2.1.1 (Plt.rtStops t.1).length t.2.1.2), (2, .slice av bs.length cv), (1, .int .u8 b8), (0, .int .u8 a8)])
    (Ls := fun t => t.2.2 ++ []) (I := fun t => t.1 ≤ n ∧ OW 83 2 encStop (.slice t.2.1.1 (Plt.rtStops t.1).length t.2.1.2) (Plt.rtStops t.1) t.2.2) (μ := fun t => n - t.1) (s0 := (0, (none, 0), []))
  · exact ⟨Nat.zero_le _, OW.nil⟩
  · exact fS_
  · exact hS_
  rintro ⟨i, ⟨al, cl⟩, NL⟩ ⟨hi, hOL⟩
  dsimp only at hi hOL ⊢
  have oL := hOL.own
  have hil := Plt.rtStops_len i
  by_cases hlt : i < n
  · have e1 : Plt.rtStops (i + 1) = Plt.rtStops i ++ [⟨60 - 2 * (i : Int), 9⟩] := Plt.rtStops_succ i
    as_aux_lemma =>
      repeat' (first | ((with_reducible apply c_cond_t); exact rfl; exact decide_eq_true (by omega)) | ((with_reducible apply o_rem8E (v := ra)); exact rfl; exact rfl; exact hra; omega; exact rfl) | ((with_reducible apply o_conv8); infer_instance; infer_instance; exact rfl; (constructor <;> omega); exact rfl) | (apply o_appH (enc := encStop) (ys := [(⟨60 - 2 * (i : Int), 9⟩ : Seq.Stop)]); infer_instance; infer_instance; infer_instance; exact rfl; exact encStop_len; exact encStop_one; exact rfl; exact rfl; exact rfl; assumption; exact rL_; (exact fun w hw => SV.lit [(⟨60 - 2 * (i : Int), 9⟩ : Seq.Stop)] encStop_len hw (by exact aT_) rfl rfl (by decide)); (first | decide | (constructor <;> (try simp only [List.length_cons, List.length_nil]) <;> omega) | (constructor <;> simp <;> omega)); intro a_ cp_ N_ hO_; have oN_ := hO_.own; (try simp only [List.nil_append, List.append_assoc] at hO_); (try simp only [List.append_eq, List.append_assoc, List.cons_append, List.nil_append])) | ((with_reducible first | apply o_move | apply o_assign | apply o_faddr0 | apply o_not_d | apply o_conv); exact rfl; exact rfl) | ((with_reducible first | apply o_lss | apply o_leq | apply o_eql | apply o_neq | apply o_extract); exact rfl; exact rfl; exact rfl) | ((with_reducible first | apply o_add | apply o_sub | apply o_mul); exact rfl; exact rfl; exact rfl; (constructor <;> omega)) | ((with_reducible apply gdo_build); first | refine wo_build (h := ?_)) | ((with_reducible apply gdo_buildSlice); refine wo_buildSlice (h := fun _ => ?_)) | ((with_reducible first | apply c_seq | apply c_block | apply c_region | apply c_nil | apply c_ret | apply c_exit | apply c_skip)) | ((with_reducible first | apply e_then | apply e_then_ret | apply e_then_exit | apply e_in | apply e_in_ret | apply e_in_same)))
      rw [← e1] at hO_ ⊢
      refine l_again (i + 1, (a_, cp_), N_) ⟨by dsimp only; omega, hO_⟩ (by dsimp only; omega) ?_ ?_
      · exact fS_
      · exact hS_
  obtain rfl : n = i := by omega
  repeat' (first | ((with_reducible apply c_cond_f); exact rfl; exact decide_eq_false (by omega)) | ((with_reducible apply o_rem8E (v := ra)); exact rfl; exact rfl; exact hra; omega; exact rfl) | ((with_reducible apply o_conv8); infer_instance; infer_instance; exact rfl; (constructor <;> omega); exact rfl) | ((with_reducible first | apply o_move | apply o_assign | apply o_faddr0 | apply o_not_d | apply o_conv); exact rfl; exact rfl) | ((with_reducible first | apply o_lss | apply o_leq | apply o_eql | apply o_neq | apply o_extract); exact rfl; exact rfl; exact rfl) | ((with_reducible first | apply o_add | apply o_sub | apply o_mul); exact rfl; exact rfl; exact rfl; (constructor <;> omega)) | ((with_reducible first | apply o_alloc | apply o_makeMap0); exact rfl; intro _) | ((with_reducible apply gdo_store); first | refine wo_store1 (h := ?_) | refine wo_storeA (h := ?_)) | ((with_reducible apply gdo_build); first | refine wo_build (h := ?_)) | ((with_reducible apply gdo_buildSlice); refine wo_buildSlice (h := fun _ => ?_)) | ((with_reducible first | apply c_seq | apply c_block | apply c_region | apply c_nil | apply c_ret | apply c_exit | apply c_skip)) | ((with_reducible first | apply e_then | apply e_then_ret | apply e_then_exit | apply e_in | apply e_in_ret | apply e_in_same)))
  rename_i bS b9
  apply c_loop (σ := Nat × (Option Addr × Nat) × List Ent) (Fs := fun t => [(10, .int .i64 t.1), (9, ptr b9), (7, .slice al (Plt.rtStops n).length cl), (2, .slice av bs.length cv), (1, .int .u8 b8)])
    (Ls := fun t => ⟨b9, Ce [.int .i64 1, .int .i64 0, .int .i64 3, .slice t.2.1.1 (List.replicate t.1 (120 : Int)).length t.2.1.2, .slice (some ⟨bS, 0, none⟩) 2 2] 61, true⟩ :: ⟨bS, Ce [.int .i64 5, .int .i64 8, .int .i64 9, .int .i64 400] 70, true⟩ :: (t.2.2 ++ (NL ++ []))) (I := fun t => t.1 ≤ s ∧ OW 3 1 encI (.slice t.2.1.1 (List.replicate t.1 (120 : Int)).length t.2.1.2) (List.replicate t.1 (120 : Int)) t.2.2) (μ := fun t => s - t.1) (s0 := (0, (none, 0), []))
  · exact ⟨Nat.zero_le _, OW.nil⟩
  · exact fS_
  · exact hS_
  rintro ⟨k, ⟨ac, cc⟩, NC⟩ ⟨hk, hOC⟩
  dsimp only at hk hOC ⊢
  have oC := hOC.own
  have hcl := List.length_replicate (n := k) (a := (120 : Int))
  by_cases hlt : k < s
  · have e1 : List.replicate (k + 1) (120 : Int) = List.replicate k 120 ++ [120] := List.replicate_succ'
    as_aux_lemma =>
      repeat' (first | ((with_reducible apply c_cond_t); exact rfl; exact decide_eq_true (by omega)) | ((with_reducible apply o_rem8E (v := rb)); exact rfl; exact rfl; exact hrb; omega; exact rfl) | ((with_reducible apply o_conv8); infer_instance; infer_instance; exact rfl; (constructor <;> omega); exact rfl) | (apply o_appH (enc := encI) (ys := [(120 : Int)]); infer_instance; infer_instance; infer_instance; exact rfl; exact encI_len; exact encI_one; exact rfl; exact rfl; exact rfl; assumption; exact rL_; (exact fun w hw => SV.lit [(120 : Int)] encI_len hw (by exact aT_) rfl rfl (by decide)); (first | decide | (constructor <;> (try simp only [List.length_cons, List.length_nil]) <;> omega) | (constructor <;> simp <;> omega)); intro a_ cp_ N_ hO_; have oN_ := hO_.own; (try simp only [List.nil_append, List.append_assoc] at hO_); (try simp only [List.append_eq, List.append_assoc, List.cons_append, List.nil_append])) | ((with_reducible first | apply o_move | apply o_assign | apply o_faddr0 | apply o_not_d | apply o_conv); exact rfl; exact rfl) | ((with_reducible apply gdo_load); first | refine wo_load (h := ?_) | refine wo_loadAll (h := ?_) | refine wo_loadC (h := ?_) | refine wo_ldV (h := ?_) | refine wo_ldF (h := ?_)) | ((with_reducible first | apply o_lss | apply o_leq | apply o_eql | apply o_neq | apply o_extract); exact rfl; exact rfl; exact rfl) | ((with_reducible first | apply o_add | apply o_sub | apply o_mul); exact rfl; exact rfl; exact rfl; (constructor <;> omega)) | ((with_reducible apply gdo_store); first | refine wo_store1 (h := ?_) | refine wo_storeA (h := ?_)) | ((with_reducible apply gdo_buildSlice); refine wo_buildSlice (h := fun _ => ?_)) | ((with_reducible first | apply c_seq | apply c_block | apply c_region | apply c_nil | apply c_ret | apply c_exit | apply c_skip)) | ((with_reducible first | apply e_then | apply e_then_ret | apply e_then_exit | apply e_in | apply e_in_ret | apply e_in_same)))
      rw [← e1] at hO_ ⊢
      refine l_again (k + 1, (a_, cp_), N_) ⟨by dsimp only; omega, hO_⟩ (by dsimp only; omega) ?_ ?_
      · exact fS_
      · exact hS_
  obtain rfl : s = k := by omega
  rw [hcl] at hOC ⊢
  rcases Seq.makeF_spec hmo hro (by omega) with he | ⟨pl, he, hg⟩
  · as_aux_lemma =>
      repeat' (first | ((with_reducible apply c_cond_t); exact rfl; exact decide_eq_true (by omega)) | ((with_reducible apply c_cond_f); exact rfl; exact decide_eq_false (by omega)) | ((with_reducible apply o_pick_t); exact rfl; exact decide_eq_true (by omega); exact rfl; exact rfl) | ((with_reducible apply g_run); exact rfl; exact decide_eq_true (by omega)) | ((with_reducible apply o_rem8E (v := rb)); exact rfl; exact rfl; exact hrb; omega; exact rfl) | ((with_reducible apply o_conv8); infer_instance; infer_instance; exact rfl; (constructor <;> omega); exact rfl) | ((first | ((with_reducible apply o_call_new (f := 25)); exact rfl) | ((with_reducible apply q_call_new (f := 25)); exact rfl; exact rfl; exact sJ_)); exact eV_; exact (fun w hw => make_calls' he w (hOL.sv encStop_len (by exact rL_) hw) (hOC.sv encI_len (by exact rL_) hw)); rintro v NP ⟨a1, c1, a2, c2, a3, c3, a4, c4, N1, N2, N3, N4, rfl, g1, g2, g3, g4, rfl, o1, o2, o3, o4⟩ <;> (try simp only [List.cons_append, List.nil_append, List.append_assoc])) | ((first | ((with_reducible apply o_call_pure (f := 16)); exact rfl) | ((with_reducible apply q_call_pure (f := 16)); exact rfl; kernel_rfl; exact rfl; exact sJ_)); exact eV_; exact (fun w _ => awake_calls w)) | ((with_reducible first | apply o_move | apply o_assign | apply o_faddr0 | apply o_not_d | apply o_conv); exact rfl; exact rfl) | ((with_reducible apply gdo_load); first | refine wo_load (h := ?_) | refine wo_loadAll (h := ?_) | refine wo_loadC (h := ?_) | refine wo_ldV (h := ?_) | refine wo_ldF (h := ?_)) | ((with_reducible first | apply o_lss | apply o_leq | apply o_eql | apply o_neq | apply o_extract); exact rfl; exact rfl; exact rfl) | ((with_reducible first | apply o_add | apply o_sub | apply o_mul); exact rfl; exact rfl; exact rfl; (constructor <;> omega)) | ((with_reducible first | apply o_alloc | apply o_makeMap0); exact rfl; intro _) | ((with_reducible apply gdo_store); first | refine wo_store1 (h := ?_) | refine wo_storeA (h := ?_)) | ((with_reducible first | apply c_seq | apply c_block | apply c_region | apply c_nil | apply c_ret | apply c_exit | apply c_skip)) | ((with_reducible first | apply e_then | apply e_then_ret | apply e_then_exit | apply e_in | apply e_in_ret | apply e_in_same)))
      apply r_body; apply res1 Try.results9; exact rV_; intro w' hw
      exact ⟨rfl, hw.below (show AO _ from by exact aO_)⟩
  repeat' (first | ((with_reducible apply c_cond_f); exact rfl; exact decide_eq_false (by omega)) | ((with_reducible apply o_rem8E (v := rb)); exact rfl; exact rfl; exact hrb; omega; exact rfl) | ((with_reducible apply o_conv8); infer_instance; infer_instance; exact rfl; (constructor <;> omega); exact rfl) | ((first | ((with_reducible apply o_call_new (f := 25)); exact rfl) | ((with_reducible apply q_call_new (f := 25)); exact rfl; exact rfl; exact sJ_)); exact eV_; exact (fun w hw => make_calls' he w (hOL.sv encStop_len (by exact rL_) hw) (hOC.sv encI_len (by exact rL_) hw)); rintro v NP ⟨a1, c1, a2, c2, a3, c3, a4, c4, N1, N2, N3, N4, rfl, g1, g2, g3, g4, rfl, o1, o2, o3, o4⟩ <;> (try simp only [List.cons_append, List.nil_append, List.append_assoc])) | ((with_reducible first | apply o_move | apply o_assign | apply o_faddr0 | apply o_not_d | apply o_conv); exact rfl; exact rfl) | ((with_reducible apply gdo_load); first | refine wo_load (h := ?_) | refine wo_loadAll (h := ?_) | refine wo_loadC (h := ?_) | refine wo_ldV (h := ?_) | refine wo_ldF (h := ?_)) | ((with_reducible first | apply o_lss | apply o_leq | apply o_eql | apply o_neq | apply o_extract); exact rfl; exact rfl; exact rfl) | ((with_reducible first | apply o_add | apply o_sub | apply o_mul); exact rfl; exact rfl; exact rfl; (constructor <;> omega)) | ((with_reducible first | apply o_alloc | apply o_makeMap0); exact rfl; intro _) | ((with_reducible apply gdo_store); first | refine wo_store1 (h := ?_) | refine wo_storeA (h := ?_)) | ((with_reducible apply gdo_build); first | refine wo_build (h := ?_)) | ((with_reducible apply o_len); infer_instance; exact rfl; exact rfl) | ((with_reducible apply gdo_buildSlice); refine wo_buildSlice (h := fun _ => ?_)) | ((with_reducible first | apply c_seq | apply c_block | apply c_region | apply c_nil | apply c_ret | apply c_exit | apply c_skip)) | ((with_reducible first | apply e_then | apply e_then_ret | apply e_then_exit | apply e_in | apply e_in_ret | apply e_in_same)))
  rename_i b11 bF b13 b14
  have hsn : pl.seats.length = n := by have := congrArg List.length hg.stops; rw [List.length_map, hsl] at this; exact this
  apply c_loop (σ := Nat × ((Option Addr × Nat) × List Ent) × ((Option Addr × Nat) × List Ent)) (Fs := fun t => [(85, .int .i64 t.1), (84, .int .i64 pl.seats.length), (83, .slice a2 pl.seats.length c2), (14, ptr b14), (13, ptr b13), (9, ptr b9), (7, .slice al (Plt.rtStops n).length cl), (2, .slice av bs.length cv)])
    (Ls := fun t => ⟨b14, Ce [.int .i64 2, .int .i64 1, .int .i64 0, .slice none 0 0, .slice t.2.2.1.1 ((pl.seats.take t.1).map Plt.rowB).length t.2.2.1.2, .slice none 0 0] 58, true⟩ :: ⟨b13, Ce [.int .i64 1, .int .i64 1, .int .i64 0, .slice (some ⟨bF, 0, none⟩) 1 1, .slice t.2.1.1.1 ((pl.seats.take t.1).map Plt.rowA).length t.2.1.1.2, .slice none 0 0] 58, true⟩ :: (t.2.1.2 ++ (t.2.2.2 ++ (⟨bF, Ce [.int .i64 0, .int .i64 1] 64, true⟩ :: ⟨b11, Ce [.slice a1 pl.caps.length c1, .slice a2 pl.seats.length c2, .slice a3 pl.first.length c3, .slice a4 pl.second.length c4] 86, true⟩ :: (N1 ++ (N2 ++ (N3 ++ (N4 ++ (⟨b9, Ce [.int .i64 1, .int .i64 0, .int .i64 3, .slice ac s cc, .slice (some ⟨bS, 0, none⟩) 2 2] 61, true⟩ :: ⟨bS, Ce [.int .i64 5, .int .i64 8, .int .i64 9, .int .i64 400] 70, true⟩ :: (NC ++ (NL ++ [])))))))))))
    (I := fun t => t.1 ≤ pl.seats.length ∧ OW 76 2 encRow (.slice t.2.1.1.1 ((pl.seats.take t.1).map Plt.rowA).length t.2.1.1.2) ((pl.seats.take t.1).map Plt.rowA) t.2.1.2 ∧ OW 76 2 encRow (.slice t.2.2.1.1 ((pl.seats.take t.1).map Plt.rowB).length t.2.2.1.2) ((pl.seats.take t.1).map Plt.rowB) t.2.2.2) (μ := fun t => pl.seats.length - t.1) (s0 := (0, ((none, 0), []), ((none, 0), [])))
  · exact ⟨Nat.zero_le _, OW.nil, OW.nil⟩
  · exact fS_
  · exact hS_
  rintro ⟨k, ⟨⟨ta, ca⟩, NA⟩, ⟨⟨tb, cb⟩, NB⟩⟩ ⟨hk3, hOA, hOB⟩
  dsimp only at hk3 hOA hOB ⊢
  have oA := hOA.own
  have oB := hOB.own
  have hla : ((pl.seats.take k).map Plt.rowA).length = k := by rw [List.length_map, List.length_take]; omega
  have hlb : ((pl.seats.take k).map Plt.rowB).length = k := by rw [List.length_map, List.length_take]; omega
  by_cases hlt3 : k < pl.seats.length
  · obtain ⟨⟨st, vo, fi, se⟩, hx⟩ : ∃ x, pl.seats[k]? = some x := ⟨_, List.getElem?_eq_getElem hlt3⟩
    have e1 : (pl.seats.take (k + 1)).map Plt.rowA = (pl.seats.take k).map Plt.rowA ++ [⟨st, fi⟩] := by rw [take_snoc hx, List.map_append]; rfl
    have e2 : (pl.seats.take (k + 1)).map Plt.rowB = (pl.seats.take k).map Plt.rowB ++ [⟨st, se⟩] := by rw [take_snoc hx, List.map_append]; rfl
    refine st_know (fun w' hw' => SV.ptr (g2.sv encSeat_len (by exact rL_) hw') hx) ?_
    rintro ⟨bT, oT, rfl⟩
    as_aux_lemma =>
      repeat' (first | ((with_reducible apply c_cond_t); exact rfl; exact decide_eq_true (by omega)) | ((with_reducible apply o_ldPV (l := [.int .i64 st, .int .i64 vo, .int .i64 fi, .int .i64 se])); infer_instance; infer_instance; exact rfl; (intro w' hw' j' v' hj'; exact SV.cell (g2.sv encSeat_len (by exact rL_) hw') hx hj'); exact rfl; exact rfl) | (apply o_appH (enc := encRow) (ys := [(⟨st, fi⟩ : Plt.Row)]); infer_instance; infer_instance; infer_instance; exact rfl; exact encRow_len; exact encRow_one; exact rfl; exact rfl; exact rfl; assumption; exact rL_; (exact fun w hw => SV.lit [(⟨st, fi⟩ : Plt.Row)] encRow_len hw (by exact aT_) rfl rfl (by decide)); (first | decide | (constructor <;> (try simp only [List.length_cons, List.length_nil]) <;> omega) | (constructor <;> simp <;> omega)); intro ta' ca' NA' hA'; have oNA' := hA'.own) | (apply o_appH (enc := encRow) (ys := [(⟨st, se⟩ : Plt.Row)]); infer_instance; infer_instance; infer_instance; exact rfl; exact encRow_len; exact encRow_one; exact rfl; exact rfl; exact rfl; assumption; exact rL_; (exact fun w hw => SV.lit [(⟨st, se⟩ : Plt.Row)] encRow_len hw (by exact aT_) rfl rfl (by decide)); (first | decide | (constructor <;> (try simp only [List.length_cons, List.length_nil]) <;> omega) | (constructor <;> simp <;> omega)); intro tb' cb' NB' hB'; have oNB' := hB'.own) | ((with_reducible first | apply o_move | apply o_assign | apply o_faddr0 | apply o_not_d | apply o_conv); exact rfl; exact rfl) | ((with_reducible apply gdo_load); first | refine wo_load (h := ?_) | refine wo_loadAll (h := ?_) | refine wo_loadC (h := ?_) | refine wo_ldV (h := ?_) | refine wo_ldF (h := ?_)) | ((with_reducible first | apply o_lss | apply o_leq | apply o_eql | apply o_neq | apply o_extract); exact rfl; exact rfl; exact rfl) | ((with_reducible first | apply o_add | apply o_sub | apply o_mul); exact rfl; exact rfl; exact rfl; (constructor <;> omega)) | ((with_reducible first | apply o_alloc | apply o_makeMap0); exact rfl; intro _) | ((with_reducible apply gdo_store); first | refine wo_store1 (h := ?_) | refine wo_storeA (h := ?_)) | ((with_reducible apply gdo_build); first | refine wo_build (h := ?_)) | ((with_reducible apply gdo_buildSlice); refine wo_buildSlice (h := fun _ => ?_)) | ((with_reducible apply o_idx); infer_instance; infer_instance; exact rfl; exact rfl; (first | exact rfl | omega); exact rfl; (first | assumption | omega | decide)) | ((with_reducible first | apply c_seq | apply c_block | apply c_region | apply c_nil | apply c_ret | apply c_exit | apply c_skip)) | ((with_reducible first | apply e_then | apply e_then_ret | apply e_then_exit | apply e_in | apply e_in_ret | apply e_in_same)))
      rw [← e1] at hA' ⊢
      rw [← e2] at hB' ⊢
      refine l_again (k + 1, ((ta', ca'), NA'), ((tb', cb'), NB')) ⟨by dsimp only; omega, hA', hB'⟩ (by dsimp only; omega) ?_ ?_
      · exact fS_
      · exact hS_
  obtain rfl : k = pl.seats.length := by omega
  rw [List.take_length] at hOA hOB hla hlb ⊢
  repeat' (first | ((with_reducible apply c_cond_f); exact rfl; exact decide_eq_false (by omega)) | ((with_reducible first | apply o_move | apply o_assign | apply o_faddr0 | apply o_not_d | apply o_conv); exact rfl; exact rfl) | ((with_reducible apply gdo_load); first | refine wo_load (h := ?_) | refine wo_loadAll (h := ?_) | refine wo_loadC (h := ?_) | refine wo_ldV (h := ?_) | refine wo_ldF (h := ?_)) | ((with_reducible first | apply o_lss | apply o_leq | apply o_eql | apply o_neq | apply o_extract); exact rfl; exact rfl; exact rfl) | ((with_reducible apply o_len); infer_instance; exact rfl; exact rfl) | ((with_reducible first | apply c_seq | apply c_block | apply c_region | apply c_nil | apply c_ret | apply c_exit | apply c_skip)) | ((with_reducible first | apply e_then | apply e_then_ret | apply e_then_exit | apply e_in | apply e_in_ret | apply e_in_same)))
  apply c_loop (σ := Nat × (Option Addr × Nat) × List Ent) (Fs := fun t => [(113, .int .i64 t.1), (112, .int .i64 s), (111, .slice ac s cc), (14, ptr b14), (13, ptr b13), (9, ptr b9), (7, .slice al (Plt.rtStops n).length cl), (2, .slice av bs.length cv)])
    (Ls := fun t => ⟨b14, Ce [.int .i64 2, .int .i64 1, .int .i64 0, .slice t.2.1.1 (Plt.srcB t.1).length t.2.1.2, .slice tb (pl.seats.map Plt.rowB).length cb, .slice none 0 0] 58, true⟩ :: ⟨b13, Ce [.int .i64 1, .int .i64 1, .int .i64 0, .slice (some ⟨bF, 0, none⟩) 1 1, .slice ta (pl.seats.map Plt.rowA).length ca, .slice none 0 0] 58, true⟩ :: (t.2.2 ++ (NA ++ (NB ++ (⟨bF, Ce [.int .i64 0, .int .i64 1] 64, true⟩ :: ⟨b11, Ce [.slice a1 pl.caps.length c1, .slice a2 pl.seats.length c2, .slice a3 pl.first.length c3, .slice a4 pl.second.length c4] 86, true⟩ :: (N1 ++ (N2 ++ (N3 ++ (N4 ++ (⟨b9, Ce [.int .i64 1, .int .i64 0, .int .i64 3, .slice ac s cc, .slice (some ⟨bS, 0, none⟩) 2 2] 61, true⟩ :: ⟨bS, Ce [.int .i64 5, .int .i64 8, .int .i64 9, .int .i64 400] 70, true⟩ :: (NC ++ (NL ++ []))))))))))))
    (I := fun t => t.1 ≤ s ∧ OW 64 2 encSrc (.slice t.2.1.1 (Plt.srcB t.1).length t.2.1.2) (Plt.srcB t.1) t.2.2) (μ := fun t => s - t.1) (s0 := (0, (none, 0), []))
  · exact ⟨Nat.zero_le _, OW.nil⟩
  · exact fS_
  · exact hS_
  rintro ⟨k, ⟨sb, cs⟩, NSr⟩ ⟨hk4, hOS⟩
  dsimp only at hk4 hOS ⊢
  have oS := hOS.own
  have hls := Plt.srcB_len k
  by_cases hlt4 : k < s
  · have e1 : Plt.srcB (k + 1) = Plt.srcB k ++ [((1 : Int), (k : Int))] := Plt.srcB_succ k
    as_aux_lemma =>
      repeat' (first | ((with_reducible apply c_cond_t); exact rfl; exact decide_eq_true (by omega)) | (apply o_appH (enc := encSrc) (ys := [(((1 : Int), (k : Int)))]); infer_instance; infer_instance; infer_instance; exact rfl; exact encSrc_len; exact encSrc_one; exact rfl; exact rfl; exact rfl; assumption; exact rL_; (exact fun w hw => SV.lit [(((1 : Int), (k : Int)))] encSrc_len hw (by exact aT_) rfl rfl (by decide)); (first | decide | (constructor <;> (try simp only [List.length_cons, List.length_nil]) <;> omega) | (constructor <;> simp <;> omega)); intro a_ cp_ N_ hO_; have oN_ := hO_.own; (try simp only [List.nil_append, List.append_assoc] at hO_); (try simp only [List.append_eq, List.append_assoc, List.cons_append, List.nil_append])) | ((with_reducible first | apply o_move | apply o_assign | apply o_faddr0 | apply o_not_d | apply o_conv); exact rfl; exact rfl) | ((with_reducible apply gdo_load); first | refine wo_load (h := ?_) | refine wo_loadAll (h := ?_) | refine wo_loadC (h := ?_) | refine wo_ldV (h := ?_) | refine wo_ldF (h := ?_)) | ((with_reducible first | apply o_lss | apply o_leq | apply o_eql | apply o_neq | apply o_extract); exact rfl; exact rfl; exact rfl) | ((with_reducible first | apply o_add | apply o_sub | apply o_mul); exact rfl; exact rfl; exact rfl; (constructor <;> omega)) | ((with_reducible apply gdo_store); first | refine wo_store1 (h := ?_) | refine wo_storeA (h := ?_)) | ((with_reducible apply gdo_build); first | refine wo_build (h := ?_)) | ((with_reducible apply gdo_buildSlice); refine wo_buildSlice (h := fun _ => ?_)) | ((with_reducible first | apply c_seq | apply c_block | apply c_region | apply c_nil | apply c_ret | apply c_exit | apply c_skip)) | ((with_reducible first | apply e_then | apply e_then_ret | apply e_then_exit | apply e_in | apply e_in_ret | apply e_in_same)))
      rw [← e1] at hO_ ⊢
      refine l_again (k + 1, (a_, cp_), N_) ⟨by dsimp only; omega, hO_⟩ (by dsimp only; omega) ?_ ?_
      · exact fS_
      · exact hS_
  obtain rfl : s = k := by omega
  repeat' (first | ((with_reducible apply c_cond_f); exact rfl; exact decide_eq_false (by omega)) | ((with_reducible first | apply o_move | apply o_assign | apply o_faddr0 | apply o_not_d | apply o_conv); exact rfl; exact rfl) | ((with_reducible apply gdo_load); first | refine wo_load (h := ?_) | refine wo_loadAll (h := ?_) | refine wo_loadC (h := ?_) | refine wo_ldV (h := ?_) | refine wo_ldF (h := ?_)) | ((with_reducible first | apply o_lss | apply o_leq | apply o_eql | apply o_neq | apply o_extract); exact rfl; exact rfl; exact rfl) | ((with_reducible first | apply o_alloc | apply o_makeMap0); exact rfl; intro _) | ((with_reducible apply gdo_store); first | refine wo_store1 (h := ?_) | refine wo_storeA (h := ?_)) | ((with_reducible apply gdo_build); first | refine wo_build (h := ?_)) | ((with_reducible apply gdo_buildSlice); refine wo_buildSlice (h := fun _ => ?_)) | ((with_reducible first | apply c_seq | apply c_region | apply c_nil | apply c_ret | apply c_exit | apply c_skip)) | ((with_reducible first | apply e_then | apply e_then_ret | apply e_then_exit | apply e_in | apply e_in_ret | apply e_in_same)))
  rename_i bM bP b18 b19 b20
  apply c_post (σ := List (Nat × Nat) × (Option Addr × Nat) × List Ent) (Ds := fun _ => []) (Fs := fun t => [(20, .map (some b20)), (18, ptr b18)])
    (Ls := fun t => ⟨b20, MO (MM kI kI (Plt.placesF t.1)), true⟩ :: ⟨b18, Ce [.slice (some ⟨bM, 0, none⟩) 1 1, .slice t.2.1.1 (t.1.map Plt.rtItem).length t.2.1.2, .slice (some ⟨bP, 0, none⟩) 2 2] 29, true⟩ :: (t.2.2 ++ (⟨bP, Ce [.int .i64 1, .int .i64 1, .int .i64 0, .slice (some ⟨bF, 0, none⟩) 1 1, .slice ta (pl.seats.map Plt.rowA).length ca, .slice none 0 0, .int .i64 2, .int .i64 1, .int .i64 0, .slice sb (Plt.srcB s).length cs, .slice tb (pl.seats.map Plt.rowB).length cb, .slice none 0 0] 58, true⟩ :: ⟨bM, Ce [.int .i64 1, .int .i64 0, .int .i64 3, .slice ac s cc, .slice (some ⟨bS, 0, none⟩) 2 2] 61, true⟩ :: ⟨b14, Ce [.int .i64 2, .int .i64 1, .int .i64 0, .slice sb (Plt.srcB s).length cs, .slice tb (pl.seats.map Plt.rowB).length cb, .slice none 0 0] 58, true⟩ :: ⟨b13, Ce [.int .i64 1, .int .i64 1, .int .i64 0, .slice (some ⟨bF, 0, none⟩) 1 1, .slice ta (pl.seats.map Plt.rowA).length ca, .slice none 0 0] 58, true⟩ :: (NSr ++ (NA ++ (NB ++ (⟨bF, Ce [.int .i64 0, .int .i64 1] 64, true⟩ :: ⟨b11, Ce [.slice a1 pl.caps.length c1, .slice a2 pl.seats.length c2, .slice a3 pl.first.length c3, .slice a4 pl.second.length c4] 86, true⟩ :: (N1 ++ (N2 ++ (N3 ++ (N4 ++ (⟨b9, Ce [.int .i64 1, .int .i64 0, .int .i64 3, .slice ac s cc, .slice (some ⟨bS, 0, none⟩) 2 2] 61, true⟩ :: ⟨bS, Ce [.int .i64 5, .int .i64 8, .int .i64 9, .int .i64 400] 70, true⟩ :: (NC ++ (NL ++ []))))))))))))))
    (I := fun t => Plt.RtOk n 90 t.1 ∧ OW 38 3 encItem (.slice t.2.1.1 (t.1.map Plt.rtItem).length t.2.1.2) (t.1.map Plt.rtItem) t.2.2)
  · as_aux_lemma =>
    repeat' (first | ((with_reducible first | apply c_seq | apply c_block | apply c_region | apply c_nil | apply c_ret | apply c_exit | apply c_skip)))
    apply c_loop (σ := Nat × List (Int × Int) × List (Nat × Nat) × (Option Addr × Nat) × List Ent) (Fs := fun t => [(21, .int .i64 t.1), (20, .map (some b20)), (19, .map (some b19)), (18, ptr b18), (7, .slice al (Plt.rtStops n).length cl), (2, .slice av bs.length cv)])
      (Ls := fun t => ⟨b20, MO (MM kI kI (Plt.placesF t.2.2.1)), true⟩ :: ⟨b19, MO (MM kI kI t.2.1), true⟩ :: ⟨b18, Ce [.slice (some ⟨bM, 0, none⟩) 1 1, .slice t.2.2.2.1.1 (t.2.2.1.map Plt.rtItem).length t.2.2.2.1.2, .slice (some ⟨bP, 0, none⟩) 2 2] 29, true⟩ :: (t.2.2.2.2 ++ (⟨bP, Ce [.int .i64 1, .int .i64 1, .int .i64 0, .slice (some ⟨bF, 0, none⟩) 1 1, .slice ta (pl.seats.map Plt.rowA).length ca, .slice none 0 0, .int .i64 2, .int .i64 1, .int .i64 0, .slice sb (Plt.srcB s).length cs, .slice tb (pl.seats.map Plt.rowB).length cb, .slice none 0 0] 58, true⟩ :: ⟨bM, Ce [.int .i64 1, .int .i64 0, .int .i64 3, .slice ac s cc, .slice (some ⟨bS, 0, none⟩) 2 2] 61, true⟩ :: ⟨b14, Ce [.int .i64 2, .int .i64 1, .int .i64 0, .slice sb (Plt.srcB s).length cs, .slice tb (pl.seats.map Plt.rowB).length cb, .slice none 0 0] 58, true⟩ :: ⟨b13, Ce [.int .i64 1, .int .i64 1, .int .i64 0, .slice (some ⟨bF, 0, none⟩) 1 1, .slice ta (pl.seats.map Plt.rowA).length ca, .slice none 0 0] 58, true⟩ :: (NSr ++ (NA ++ (NB ++ (⟨bF, Ce [.int .i64 0, .int .i64 1] 64, true⟩ :: ⟨b11, Ce [.slice a1 pl.caps.length c1, .slice a2 pl.seats.length c2, .slice a3 pl.first.length c3, .slice a4 pl.second.length c4] 86, true⟩ :: (N1 ++ (N2 ++ (N3 ++ (N4 ++ (⟨b9, Ce [.int .i64 1, .int .i64 0, .int .i64 3, .slice ac s cc, .slice (some ⟨bS, 0, none⟩) 2 2] 61, true⟩ :: ⟨bS, Ce [.int .i64 5, .int .i64 8, .int .i64 9, .int .i64 400] 70, true⟩ :: (NC ++ (NL ++ []))))))))))))))
      (I := fun t => t.1 ≤ min bs.length 90 ∧ Plt.RtOk n t.1 t.2.2.1 ∧ OW 38 3 encItem (.slice t.2.2.2.1.1 (t.2.2.1.map Plt.rtItem).length t.2.2.2.1.2) (t.2.2.1.map Plt.rtItem) t.2.2.2.2 ∧ (t.2.1.map Prod.fst).Nodup ∧ ∀ k v, asF k t.2.1 = some v → 0 ≤ v ∧ v ≤ t.1) (μ := fun t => min bs.length 90 - t.1) (s0 := (0, [], [], (none, 0), []))
    · exact ⟨Nat.zero_le _, ⟨by simp, List.Pairwise.nil, by simp⟩, OW.nil, by simp, fun k v h => by cases h⟩
    · exact fS_
    · exact hS_
    rintro ⟨i, ml, its, ⟨ai, ci⟩, NI⟩ ⟨hi, hok, hOI, hnd, hvs⟩
    dsimp only at hi hok hOI hnd hvs ⊢
    have oI := hOI.own
    have hilen := hok.len
    have hlen1 : (its.map Plt.rtItem).length = its.length := List.length_map _
    by_cases hlt5 : i < min bs.length 90
    · obtain ⟨y, hy⟩ : ∃ y, bs[i]? = some y := ⟨_, List.getElem?_eq_getElem (by omega)⟩
      have hy8 := y.toNat_lt
      obtain ⟨kk, hkk⟩ : ∃ kk : Nat, (y.toNat : Int) % ((Plt.rtStops n).length : Int) = (kk : Int) := ⟨y.toNat % n, by rw [hsl]; omega⟩
      have hkn : kk < n := by rw [hsl] at hkk; have := Int.emod_lt_of_pos (y.toNat : Int) (show 0 < (n : Int) by omega); omega
      have hst : (Plt.rtStops n)[kk]? = some ⟨60 - 2 * (kk : Int), 9⟩ := by rw [Plt.rtStops, List.getElem?_map, List.getElem?_range hkn]; rfl
      have hpk := hok.keys
      have hput2 := hok.put kk
      have e1 : (its ++ [(i, kk)]).map Plt.rtItem = its.map Plt.rtItem ++ [⟨1 + (i : Int), 60 - 2 * (kk : Int), 1⟩] := by rw [List.map_append]; rfl
      refine st_know (fun w' hw' => SV.ptr (h2.keep hw' (by exact aO_)) hy) ?_
      rintro ⟨bv, ov, rfl⟩
      refine st_know (fun w' hw' => SV.ptr (hOL.sv encStop_len (by exact rL_) hw') hst) ?_
      rintro ⟨bl, ol, rfl⟩
      cases hml : asF (kk : Int) ml with
      | none =>
        obtain ⟨nv, hnv⟩ : ∃ nv, (0 : Int) + 1 = nv := ⟨_, rfl⟩
        have hnd2 : ((putF (kk : Int) nv ml).map Prod.fst).Nodup := putF_nodup hnd
        have hget : asF (kk : Int) (putF (kk : Int) nv ml) = some nv := by rw [asF_put, if_pos rfl]
        have hvals : ∀ k v, asF k (putF (kk : Int) nv ml) = some v → 0 ≤ v ∧ v ≤ ((i + 1 : Nat) : Int) := fun k v h => by
          rw [asF_put] at h
          split at h
          · cases h; omega
          · have := hvs k v h; omega
        by_cases h9 : nv ≤ 9
        · as_aux_lemma =>
            repeat' (first | ((with_reducible apply c_cond_t); exact rfl; exact decide_eq_true (by omega)) | ((with_reducible apply o_pick_t); exact rfl; exact decide_eq_true (by omega); exact rfl; exact rfl) | ((with_reducible apply g_run); exact rfl; exact decide_eq_true (by omega)) | ((with_reducible apply o_ldP (v := .int .u8 (y.toNat : Int))); infer_instance; exact rfl; (intro w' hw'; exact SV.cell1 (h2.keep hw' (by exact aO_)) hy rfl); exact rfl) | ((with_reducible apply o_conv8); infer_instance; infer_instance; exact rfl; (constructor <;> omega); exact rfl) | ((with_reducible apply o_remE (v := (kk : Int))); exact rfl; exact rfl; exact hkk; omega; exact rfl) | ((with_reducible apply o_lookM_out (κ := kI) (ν := kI) (l := ml) (k := (kk : Int))); infer_instance; infer_instance; infer_instance; exact rfl; exact rfl; exact kN_; exact hml; exact rfl) | ((with_reducible apply o_lookM_in (κ := kI) (ν := kI) (l := putF (kk : Int) nv ml) (k := (kk : Int)) (v := nv)); infer_instance; infer_instance; exact rfl; exact rfl; exact kN_; exact hnd2; exact hget; exact rfl) | ((with_reducible apply o_addE (v := nv)); exact rfl; exact rfl; exact hnv; omega; exact rfl) | ((with_reducible apply o_mapPut (κ := kI) (ν := kI) (k := (kk : Int)) (v := nv)); infer_instance; infer_instance; exact rfl; exact rfl; exact rfl; exact aT_; assumption; exact uP_) | ((with_reducible apply q_ldP (v := .int .i64 (60 - 2 * (kk : Int)))); infer_instance; exact rfl; exact rfl; exact sJ_; (intro w' hw'; exact SV.cell1 (hOL.sv encStop_len (by exact rL_) hw') hst rfl); exact rfl) | (apply o_appH (enc := encItem) (ys := [(⟨1 + (i : Int), 60 - 2 * (kk : Int), 1⟩ : Plt.Item)]); infer_instance; infer_instance; infer_instance; exact rfl; exact encItem_len; exact encItem_one; exact rfl; exact rfl; exact rfl; assumption; exact rL_; (exact fun w hw => SV.lit [(⟨1 + (i : Int), 60 - 2 * (kk : Int), 1⟩ : Plt.Item)] encItem_len hw (by exact aT_) rfl rfl (by decide)); (first | decide | (constructor <;> (try simp only [List.length_cons, List.length_nil]) <;> omega) | (constructor <;> simp <;> omega)); intro a_ cp_ N_ hO_; have oN_ := hO_.own; (try simp only [List.nil_append, List.append_assoc] at hO_); (try simp only [List.append_eq, List.append_assoc, List.cons_append, List.nil_append])) | ((with_reducible apply o_mapPut (κ := kI) (ν := kI) (k := 1 + (i : Int)) (v := 100 * (kk : Int) + (i : Int))); infer_instance; infer_instance; exact rfl; exact rfl; exact rfl; exact aT_; assumption; exact uP_) | ((with_reducible first | apply o_move | apply o_assign | apply o_faddr0 | apply o_not_d | apply o_conv); exact rfl; exact rfl) | ((with_reducible first | apply o_lss | apply o_leq | apply o_eql | apply o_neq | apply o_extract); exact rfl; exact rfl; exact rfl) | ((with_reducible first | apply o_add | apply o_sub | apply o_mul); exact rfl; exact rfl; exact rfl; (constructor <;> omega)) | ((with_reducible apply gdo_store); first | refine wo_store1 (h := ?_) | refine wo_storeA (h := ?_)) | ((with_reducible apply o_len); infer_instance; exact rfl; exact rfl) | ((with_reducible apply o_idx); infer_instance; infer_instance; exact rfl; exact rfl; (first | exact rfl | omega); exact rfl; (first | assumption | omega | decide)) | ((with_reducible first | apply c_seq | apply c_block | apply c_region | apply c_nil | apply c_ret | apply c_exit | apply c_skip)) | ((with_reducible first | apply e_then | apply e_then_ret | apply e_then_exit | apply e_in | apply e_in_ret | apply e_in_same)) | ((with_reducible apply c_regionD (id := 34) [] 11); kernel_rfl; kernel_rfl; simp only [List.take_succ_cons, List.take_zero, List.drop_succ_cons, List.drop_zero]) | ((with_reducible apply q_nil); try simp only [ents, List.cons_append, List.nil_append]) | ((with_reducible first | apply q_move | apply q_assign | apply q_faddr0); exact rfl; exact rfl) | ((with_reducible first | apply q_faddr); exact rfl; exact rfl) | ((with_reducible apply gdq_load); first | refine wq_load (h := ?_) | refine wq_loadAll (h := ?_) | refine wq_loadC (h := ?_) | refine wq_ldF (h := ?_)) | ((with_reducible first | apply q_add); exact rfl; exact rfl; exact rfl; (constructor <;> omega)) | ((with_reducible apply gdq_build); first | refine wq_build (h := ?_)) | ((with_reducible apply q_idx); infer_instance; infer_instance; exact rfl; exact rfl; (first | exact rfl | omega); exact rfl; (first | assumption | omega | decide)) | ((with_reducible apply gdq_buildSlice); refine wq_buildSlice (h := fun _ => ?_)))
            rw [← e1] at hO_ ⊢
            rw [hput2]
            refine l_again (i + 1, putF (kk : Int) nv ml, its ++ [(i, kk)], (a_, cp_), N_) ⟨by dsimp only; omega, hok.more hkn, hO_, hnd2, hvals⟩ (by dsimp only; omega) ?_ ?_
            · exact fS_
            · exact hS_
        · exfalso; omega
      | some cvv =>
        have hcb := hvs _ _ hml
        obtain ⟨nv, hnv⟩ : ∃ nv, cvv + 1 = nv := ⟨_, rfl⟩
        have hnd2 : ((putF (kk : Int) nv ml).map Prod.fst).Nodup := putF_nodup hnd
        have hget : asF (kk : Int) (putF (kk : Int) nv ml) = some nv := by rw [asF_put, if_pos rfl]
        have hvals : ∀ k v, asF k (putF (kk : Int) nv ml) = some v → 0 ≤ v ∧ v ≤ ((i + 1 : Nat) : Int) := fun k v h => by
          rw [asF_put] at h
          split at h
          · cases h; omega
          · have := hvs k v h; omega
        by_cases h9 : nv ≤ 9
        · as_aux_lemma =>
            repeat' (first | ((with_reducible apply c_cond_t); exact rfl; exact decide_eq_true (by omega)) | ((with_reducible apply o_pick_t); exact rfl; exact decide_eq_true (by omega); exact rfl; exact rfl) | ((with_reducible apply g_run); exact rfl; exact decide_eq_true (by omega)) | ((with_reducible apply o_ldP (v := .int .u8 (y.toNat : Int))); infer_instance; exact rfl; (intro w' hw'; exact SV.cell1 (h2.keep hw' (by exact aO_)) hy rfl); exact rfl) | ((with_reducible apply o_conv8); infer_instance; infer_instance; exact rfl; (constructor <;> omega); exact rfl) | ((with_reducible apply o_remE (v := (kk : Int))); exact rfl; exact rfl; exact hkk; omega; exact rfl) | ((with_reducible apply o_lookM_in (κ := kI) (ν := kI) (l := ml) (k := (kk : Int)) (v := cvv)); infer_instance; infer_instance; exact rfl; exact rfl; exact kN_; exact hnd; exact hml; exact rfl) | ((with_reducible apply o_lookM_in (κ := kI) (ν := kI) (l := putF (kk : Int) nv ml) (k := (kk : Int)) (v := nv)); infer_instance; infer_instance; exact rfl; exact rfl; exact kN_; exact hnd2; exact hget; exact rfl) | ((with_reducible apply o_addE (v := nv)); exact rfl; exact rfl; exact hnv; omega; exact rfl) | ((with_reducible apply o_mapPut (κ := kI) (ν := kI) (k := (kk : Int)) (v := nv)); infer_instance; infer_instance; exact rfl; exact rfl; exact rfl; exact aT_; assumption; exact uP_) | ((with_reducible apply q_ldP (v := .int .i64 (60 - 2 * (kk : Int)))); infer_instance; exact rfl; exact rfl; exact sJ_; (intro w' hw'; exact SV.cell1 (hOL.sv encStop_len (by exact rL_) hw') hst rfl); exact rfl) | (apply o_appH (enc := encItem) (ys := [(⟨1 + (i : Int), 60 - 2 * (kk : Int), 1⟩ : Plt.Item)]); infer_instance; infer_instance; infer_instance; exact rfl; exact encItem_len; exact encItem_one; exact rfl; exact rfl; exact rfl; assumption; exact rL_; (exact fun w hw => SV.lit [(⟨1 + (i : Int), 60 - 2 * (kk : Int), 1⟩ : Plt.Item)] encItem_len hw (by exact aT_) rfl rfl (by decide)); (first | decide | (constructor <;> (try simp only [List.length_cons, List.length_nil]) <;> omega) | (constructor <;> simp <;> omega)); intro a_ cp_ N_ hO_; have oN_ := hO_.own; (try simp only [List.nil_append, List.append_assoc] at hO_); (try simp only [List.append_eq, List.append_assoc, List.cons_append, List.nil_append])) | ((with_reducible apply o_mapPut (κ := kI) (ν := kI) (k := 1 + (i : Int)) (v := 100 * (kk : Int) + (i : Int))); infer_instance; infer_instance; exact rfl; exact rfl; exact rfl; exact aT_; assumption; exact uP_) | ((with_reducible first | apply o_move | apply o_assign | apply o_faddr0 | apply o_not_d | apply o_conv); exact rfl; exact rfl) | ((with_reducible first | apply o_lss | apply o_leq | apply o_eql | apply o_neq | apply o_extract); exact rfl; exact rfl; exact rfl) | ((with_reducible first | apply o_add | apply o_sub | apply o_mul); exact rfl; exact rfl; exact rfl; (constructor <;> omega)) | ((with_reducible apply gdo_store); first | refine wo_store1 (h := ?_) | refine wo_storeA (h := ?_)) | ((with_reducible apply o_len); infer_instance; exact rfl; exact rfl) | ((with_reducible apply o_idx); infer_instance; infer_instance; exact rfl; exact rfl; (first | exact rfl | omega); exact rfl; (first | assumption | omega | decide)) | ((with_reducible first | apply c_seq | apply c_block | apply c_region | apply c_nil | apply c_ret | apply c_exit | apply c_skip)) | ((with_reducible first | apply e_then | apply e_then_ret | apply e_then_exit | apply e_in | apply e_in_ret | apply e_in_same)) | ((with_reducible apply c_regionD (id := 34) [] 11); kernel_rfl; kernel_rfl; simp only [List.take_succ_cons, List.take_zero, List.drop_succ_cons, List.drop_zero]) | ((with_reducible apply q_nil); try simp only [ents, List.cons_append, List.nil_append]) | ((with_reducible first | apply q_move | apply q_assign | apply q_faddr0); exact rfl; exact rfl) | ((with_reducible first | apply q_faddr); exact rfl; exact rfl) | ((with_reducible apply gdq_load); first | refine wq_load (h := ?_) | refine wq_loadAll (h := ?_) | refine wq_loadC (h := ?_) | refine wq_ldF (h := ?_)) | ((with_reducible first | apply q_add); exact rfl; exact rfl; exact rfl; (constructor <;> omega)) | ((with_reducible apply gdq_build); first | refine wq_build (h := ?_)) | ((with_reducible apply q_idx); infer_instance; infer_instance; exact rfl; exact rfl; (first | exact rfl | omega); exact rfl; (first | assumption | omega | decide)) | ((with_reducible apply gdq_buildSlice); refine wq_buildSlice (h := fun _ => ?_)))
            rw [← e1] at hO_ ⊢
            rw [hput2]
            refine l_again (i + 1, putF (kk : Int) nv ml, its ++ [(i, kk)], (a_, cp_), N_) ⟨by dsimp only; omega, hok.more hkn, hO_, hnd2, hvals⟩ (by dsimp only; omega) ?_ ?_
            · exact fS_
            · exact hS_
        · as_aux_lemma =>
            repeat' (first | ((with_reducible apply c_cond_t); exact rfl; exact decide_eq_true (by omega)) | ((with_reducible apply c_cond_f); exact rfl; exact decide_eq_false (by omega)) | ((with_reducible apply o_pick_t); exact rfl; exact decide_eq_true (by omega); exact rfl; exact rfl) | ((with_reducible apply g_run); exact rfl; exact decide_eq_true (by omega)) | ((with_reducible apply o_ldP (v := .int .u8 (y.toNat : Int))); infer_instance; exact rfl; (intro w' hw'; exact SV.cell1 (h2.keep hw' (by exact aO_)) hy rfl); exact rfl) | ((with_reducible apply o_conv8); infer_instance; infer_instance; exact rfl; (constructor <;> omega); exact rfl) | ((with_reducible apply o_remE (v := (kk : Int))); exact rfl; exact rfl; exact hkk; omega; exact rfl) | ((with_reducible apply o_lookM_in (κ := kI) (ν := kI) (l := ml) (k := (kk : Int)) (v := cvv)); infer_instance; infer_instance; exact rfl; exact rfl; exact kN_; exact hnd; exact hml; exact rfl) | ((with_reducible apply o_lookM_in (κ := kI) (ν := kI) (l := putF (kk : Int) nv ml) (k := (kk : Int)) (v := nv)); infer_instance; infer_instance; exact rfl; exact rfl; exact kN_; exact hnd2; exact hget; exact rfl) | ((with_reducible apply o_addE (v := nv)); exact rfl; exact rfl; exact hnv; omega; exact rfl) | ((with_reducible apply o_mapPut (κ := kI) (ν := kI) (k := (kk : Int)) (v := nv)); infer_instance; infer_instance; exact rfl; exact rfl; exact rfl; exact aT_; assumption; exact uP_) | ((with_reducible first | apply o_move | apply o_assign | apply o_faddr0 | apply o_not_d | apply o_conv); exact rfl; exact rfl) | ((with_reducible first | apply o_lss | apply o_leq | apply o_eql | apply o_neq | apply o_extract); exact rfl; exact rfl; exact rfl) | ((with_reducible first | apply o_add | apply o_sub | apply o_mul); exact rfl; exact rfl; exact rfl; (constructor <;> omega)) | ((with_reducible apply o_len); infer_instance; exact rfl; exact rfl) | ((with_reducible apply o_idx); infer_instance; infer_instance; exact rfl; exact rfl; (first | exact rfl | omega); exact rfl; (first | assumption | omega | decide)) | ((with_reducible first | apply c_seq | apply c_block | apply c_region | apply c_nil | apply c_ret | apply c_exit | apply c_skip)) | ((with_reducible first | apply e_then | apply e_then_ret | apply e_then_exit | apply e_in | apply e_in_ret | apply e_in_same)))
            refine l_again (i + 1, putF (kk : Int) nv ml, its, (ai, ci), NI) ⟨by dsimp only; omega, hok.next, hOI, hnd2, hvals⟩ (by dsimp only; omega) ?_ ?_
            · exact fS_
            · exact hS_
    have hok90 : Plt.RtOk n 90 its := ⟨fun x hx => by have := hok.lt x hx; omega, hok.pw, by omega⟩
    by_cases hb : i < bs.length
    · repeat' (first | ((with_reducible apply c_cond_f); exact rfl; exact decide_eq_false (by omega)) | ((with_reducible apply o_pick_t); exact rfl; exact decide_eq_true (by omega); exact rfl; exact rfl) | ((with_reducible apply g_run); exact rfl; exact decide_eq_true (by omega)) | ((with_reducible first | apply o_move | apply o_assign | apply o_faddr0 | apply o_not_d | apply o_conv); exact rfl; exact rfl) | ((with_reducible first | apply o_lss | apply o_leq | apply o_eql | apply o_neq | apply o_extract); exact rfl; exact rfl; exact rfl) | ((with_reducible apply o_len); infer_instance; exact rfl; exact rfl) | ((with_reducible first | apply c_seq | apply c_block | apply c_region | apply c_nil | apply c_ret | apply c_exit | apply c_skip)) | ((with_reducible first | apply e_then | apply e_then_ret | apply e_then_exit | apply e_in | apply e_in_ret | apply e_in_same)))
      refine l_meetD (its, (ai, ci), NI) ⟨hok90, hOI⟩ rfl ?_ ?_
      · exact fS_
      · exact hS_
    · repeat' (first | ((with_reducible apply o_pick_f); exact rfl; exact decide_eq_false (by omega); exact rfl; exact rfl) | ((with_reducible apply g_skip); exact rfl; exact decide_eq_false (by omega); exact rfl) | ((with_reducible first | apply o_move | apply o_assign | apply o_faddr0 | apply o_not_d | apply o_conv); exact rfl; exact rfl) | ((with_reducible first | apply o_lss | apply o_leq | apply o_eql | apply o_neq | apply o_extract); exact rfl; exact rfl; exact rfl) | ((with_reducible apply o_len); infer_instance; exact rfl; exact rfl) | ((with_reducible first | apply c_seq | apply c_block | apply c_region | apply c_nil | apply c_ret | apply c_exit | apply c_skip)) | ((with_reducible apply c_cond_f); exact rfl; exact fF_) | ((with_reducible first | apply e_then | apply e_then_ret | apply e_then_exit | apply e_in | apply e_in_ret | apply e_in_same)))
      refine l_meetD (its, (ai, ci), NI) ⟨hok90, hOI⟩ rfl ?_ ?_
      · exact fS_
      · exact hS_
  rintro ⟨its, ⟨ai, ci⟩, NI⟩ ⟨hok, hOI⟩
  dsimp only at hok hOI ⊢
  have oI := hOI.own
  have hrt : Plt.Rt pl n s its := ⟨hg, hn2.2, hs2, hok⟩
  have hval := hrt.valid
  have hcalm := Plt.calm_of hval
  obtain ⟨r0, r1, hpl, hX⟩ := hrt.runs
  have hlen2 : (Plt.playF (Plt.rtP pl s its)).length = 2 := by rw [hpl]; rfl
  have hr1 : (Plt.playF (Plt.rtP pl s its))[1]? = some r1 := by rw [hpl]; rfl
  have hM := ow_lit (E := 61) (k := 5) (n := 1) (b := bM) (enc := encMD) [⟨1, 0, 3, (ac, s, cc), (some ⟨bS, 0, none⟩, 2, 2)⟩] encMD_len rfl rfl (by decide)
  have hP := ow_lit (E := 58) (k := 6) (n := 2) (b := bP) (enc := encPD) [⟨1, 1, 0, (some ⟨bF, 0, none⟩, 1, 1), (ta, (pl.seats.map Plt.rowA).length, ca), (none, 0, 0)⟩, ⟨2, 1, 0, (sb, (Plt.srcB s).length, cs), (tb, (pl.seats.map Plt.rowB).length, cb), (none, 0, 0)⟩] encPD_len rfl rfl (by decide)
  have hXmm := shw_cons2 (R := MachV) (x := (⟨1, 0, 3, (ac, s, cc), (some ⟨bS, 0, none⟩, 2, 2)⟩ : MD)) (y := Plt.rtM s) (Shw.mono (Shw.and (Shw.left (Shw.ow encI_len hOC)) (Shw.right (shw_lit (b := bS) (e := 70) (k := 2) (n := 2) (enc := encSh) [⟨5, 8⟩, ⟨9, 400⟩] encSh_len rfl rfl (by decide)))) fun w h => ⟨rfl, rfl, rfl, h.1, h.2⟩) (shw_nil2 (N := []))
  have hXp := shw_cons2 (R := PassV) (x := (⟨1, 1, 0, (some ⟨bF, 0, none⟩, 1, 1), (ta, (pl.seats.map Plt.rowA).length, ca), (none, 0, 0)⟩ : PD)) (y := Plt.rtA pl) (Shw.mono (Shw.and (Shw.left (shw_lit (b := bF) (e := 64) (k := 2) (n := 1) (enc := encSrc) [(0, 1)] encSrc_len rfl rfl (by decide))) (Shw.right (Shw.ow encRow_len hOA))) fun w h => ⟨rfl, rfl, rfl, h.1, h.2, SV.nil⟩)
    (shw_cons2 (R := PassV) (x := (⟨2, 1, 0, (sb, (Plt.srcB s).length, cs), (tb, (pl.seats.map Plt.rowB).length, cb), (none, 0, 0)⟩ : PD)) (y := Plt.rtB pl s) (Shw.mono (Shw.and (Shw.left (Shw.ow encSrc_len hOS)) (Shw.right (Shw.ow encRow_len hOB))) fun w h => ⟨rfl, rfl, rfl, h.1, h.2, SV.nil⟩) (shw_nil2 (N := [])))
  have hB := built_plv (p := Plt.rtP pl s its) hM hOI hP ⟨rfl, rfl⟩ (Shw.left hXmm) (Shw.right hXp)
  have hBs := fun (w' : World) (hw' : Rep w w' (⟨bM, Ce [.int .i64 1, .int .i64 0, .int .i64 3, .slice ac s cc, .slice (some ⟨bS, 0, none⟩) 2 2] 61, true⟩ :: (NI ++ (⟨bP, Ce [.int .i64 1, .int .i64 1, .int .i64 0, .slice (some ⟨bF, 0, none⟩) 1 1, .slice ta (pl.seats.map Plt.rowA).length ca, .slice none 0 0, .int .i64 2, .int .i64 1, .int .i64 0, .slice sb (Plt.srcB s).length cs, .slice tb (pl.seats.map Plt.rowB).length cb, .slice none 0 0] 58, true⟩ :: (NC ++ (⟨bS, Ce [.int .i64 5, .int .i64 8, .int .i64 9, .int .i64 400] 70, true⟩ :: ⟨bF, Ce [.int .i64 0, .int .i64 1] 64, true⟩ :: (NA ++ (NSr ++ NB)))))))) => Shw.all hB (by simp only [List.append_assoc, List.cons_append, List.nil_append, List.append_nil]; exact hw')
  repeat' (first | ((with_reducible apply c_cond_f); exact rfl; exact decide_eq_false (by omega)) | ((with_reducible apply o_pick_f); exact rfl; exact decide_eq_false (by omega); exact rfl; exact rfl) | ((with_reducible apply g_run); exact rfl; exact decide_eq_false (by omega)) | ((first | ((with_reducible apply o_call_new (f := 11)); exact rfl) | ((with_reducible apply q_call_new (f := 11)); exact rfl; exact rfl; exact sJ_)); exact eV_; exact (fun w' hw' => play_calls31 hcalm w' (hBs w' (hw'.sub (by exact hS_)))); rintro v NR ⟨ar, cr, rds, rfl, ⟨hR, hrl⟩, oR⟩ <;> (try simp only [List.cons_append, List.nil_append])) | ((with_reducible first | apply o_move | apply o_assign | apply o_faddr0 | apply o_not_d | apply o_conv); exact rfl; exact rfl) | ((with_reducible apply gdo_load); first | refine wo_load (h := ?_) | refine wo_loadAll (h := ?_) | refine wo_loadC (h := ?_) | refine wo_ldV (h := ?_) | refine wo_ldF (h := ?_)) | ((with_reducible first | apply o_lss | apply o_leq | apply o_eql | apply o_neq | apply o_extract); exact rfl; exact rfl; exact rfl) | ((with_reducible apply o_len); infer_instance; exact rfl; exact rfl) | ((with_reducible first | apply c_seq | apply c_block | apply c_region | apply c_nil | apply c_ret | apply c_exit | apply c_skip)) | ((with_reducible first | apply e_then | apply e_then_ret | apply e_then_exit | apply e_in | apply e_in_ret | apply e_in_same)))
  refine st_restart fun w1 hw1 => ?_
  have hk20 := hw1.at (b := b20) (o := MO (MM kI kI (Plt.placesF its))) (by exact aT_)
  have hk18 := hw1.at (b := b18) (o := Ce [.slice (some ⟨bM, 0, none⟩) 1 1, .slice ai (its.map Plt.rtItem).length ci, .slice (some ⟨bP, 0, none⟩) 2 2] 29) (by exact aT_)
  have hbel1 := hw1.below (show AO _ from by exact aO_)
  have hRW := hR _ _ _ _ (by exact rL_) hw1
  obtain ⟨br, offr, x1, k1, x2, k2, x3, n3, k3, x4, n4, k4, x5, k5, x6, k6, x7, n7, k7, rfl, hd, hn3, g0⟩ := RunsV.at hRW hr1
  obtain ⟨ss, hss, hsll⟩ := (hRW.2.2 1 _ _ hd hr1).stk' rfl
  have hstep := fun (t : Nat) (id : Int) => hrt.step (t := t) (id := id)
  have hOl := hrt.len
  rw [← hX] at hstep hOl
  have hkeys := hok.keys
  generalize r1.res.stackers = X at hn3 hsll hX hstep hOl
  subst hn3
  have hXm : X.length ≤ 9223372036854775807 := by
    obtain ⟨_, _, _, hxc, _⟩ := hss.open
    rw [hsll.1] at hxc
    exact hxc.2
  clear hX hw1 hB hBs hXmm hXp hM hP hR
  repeat' (first | ((with_reducible apply o_idx (m := 1)); infer_instance; infer_instance; exact rfl; exact rfl; exact rfl; exact rfl; omega) | ((with_reducible apply o_ldP (v := .slice x3 X.length k3)); infer_instance; exact rfl; (intro w' hw'; exact SV.cell (hRW.1.keep hw' (by exact aO_)) hd (g0 5 _ rfl)); exact rfl) | ((with_reducible first | apply o_move | apply o_assign | apply o_faddr0 | apply o_not_d | apply o_conv); exact rfl; exact rfl) | ((with_reducible first | apply o_faddr); exact rfl; exact rfl) | ((with_reducible apply o_len); infer_instance; exact rfl; exact rfl) | ((with_reducible first | apply c_seq | apply c_block | apply c_region | apply c_nil | apply c_ret | apply c_exit | apply c_skip)) | ((with_reducible first | apply e_then | apply e_then_ret | apply e_then_exit | apply e_in | apply e_in_ret | apply e_in_same)))
  apply c_loop (σ := Nat) (Fs := fun j => [(196, .int .i64 j), (195, .int .i64 X.length), (194, .slice x3 X.length k3), (25, .int .i64 (((X.take j).flatten.length : Nat) : Int)), (24, .int .i64 (Plt.lastP its X.flatten (X.take j).flatten.length)), (20, .map (some b20)), (18, ptr b18)])
    (Ls := fun j => []) (I := fun j => j ≤ X.length) (μ := fun j => X.length - j) (s0 := 0)
  · exact Nat.zero_le _
  · exact fS_
  · exact hS_
  intro j hj
  have hj : j ≤ X.length := hj
  by_cases hlt6 : j < X.length
  · obtain ⟨row, hrow⟩ : ∃ row, X[j]? = some row := ⟨_, List.getElem?_eq_getElem hlt6⟩
    obtain ⟨⟨aj, nj, cj⟩, hsj⟩ : ∃ s, ss[j]? = some s := ⟨_, List.getElem?_eq_getElem (by rw [hsll.1]; exact hlt6)⟩
    have hrw := hsll.2 j _ _ hsj hrow
    obtain ⟨_, _, e9, hcj, -⟩ := hrw.open
    cases e9
    have hnx := Plt.flat_next hrow
    have hfl := fun (i : Nat) (x : Int) (h : row[i]? = some x) => Plt.flat_at hrow h
    obtain ⟨bx, ox, rfl⟩ := SV.ptr hss hsj
    have hbb : (X.take j).flatten.length + row.length ≤ 90 := by
      have h1 : ((X.take (j + 1)).flatten).length ≤ X.flatten.length := by
        conv => rhs; rw [← List.take_append_drop (j + 1) X, List.flatten_append, List.length_append]
        omega
      have := hok.len
      omega
    generalize (X.take j).flatten.length = base at hnx hfl hbb ⊢
    repeat' (first | ((with_reducible apply c_cond_t); exact rfl; exact decide_eq_true (by omega)) | ((with_reducible apply o_ldP (v := .slice aj row.length cj)); infer_instance; exact rfl; (intro w' hw'; exact SV.cell1 (hss.keep hw' (by exact aO_)) hsj rfl); exact rfl) | ((with_reducible first | apply o_move | apply o_assign | apply o_faddr0 | apply o_not_d | apply o_conv); exact rfl; exact rfl) | ((with_reducible first | apply o_lss | apply o_leq | apply o_eql | apply o_neq | apply o_extract); exact rfl; exact rfl; exact rfl) | ((with_reducible apply o_len); infer_instance; exact rfl; exact rfl) | ((with_reducible apply o_idx); infer_instance; infer_instance; exact rfl; exact rfl; (first | exact rfl | omega); exact rfl; (first | assumption | omega | decide)) | ((with_reducible first | apply c_seq | apply c_block | apply c_region | apply c_nil | apply c_ret | apply c_exit | apply c_skip)) | ((with_reducible first | apply e_then | apply e_then_ret | apply e_then_exit | apply e_in | apply e_in_ret | apply e_in_same)))
    apply c_loop (σ := Nat) (Fs := fun i => [(202, .int .i64 i), (201, .int .i64 row.length), (200, .slice aj row.length cj), (25, .int .i64 ((base + i : Nat) : Int)), (24, .int .i64 (Plt.lastP its X.flatten (base + i))), (196, .int .i64 j), (195, .int .i64 X.length), (194, .slice (some ⟨bx, ox, none⟩) X.length k3), (20, .map (some b20)), (18, ptr b18)])
      (Ls := fun i => []) (I := fun i => i ≤ row.length) (μ := fun i => row.length - i) (s0 := 0)
    · exact Nat.zero_le _
    · exact fS_
    · exact hS_
    intro i hi
    have hi : i ≤ row.length := hi
    by_cases hlt7 : i < row.length
    · obtain ⟨x, hx⟩ : ∃ x, row[i]? = some x := ⟨_, List.getElem?_eq_getElem hlt7⟩
      obtain ⟨v, hv, hv1, hv2, hv3⟩ := hstep _ _ (hfl i x hx)
      obtain ⟨bz, oz, rfl⟩ := SV.ptr hrw hx
      generalize Plt.lastP its X.flatten (base + i) = lp at hv1 ⊢
      as_aux_lemma =>
        repeat' (first | ((with_reducible apply c_cond_t); exact rfl; exact decide_eq_true (by omega)) | ((with_reducible apply c_cond_f); exact rfl; exact decide_eq_false (by omega)) | ((with_reducible apply o_ldP (v := .int .i64 x)); infer_instance; exact rfl; (intro w' hw'; exact SV.cell1 (hrw.keep hw' (by exact aO_)) hx rfl); exact rfl) | ((with_reducible apply o_lookMT_in (κ := kI) (ν := kI) (l := Plt.placesF its) (k := x) (v := v)); infer_instance; infer_instance; exact rfl; exact rfl; exact kN_; exact hkeys; exact hv; exact rfl) | ((with_reducible first | apply o_move | apply o_assign | apply o_faddr0 | apply o_not_d | apply o_conv); exact rfl; exact rfl) | ((with_reducible first | apply o_lss | apply o_leq | apply o_eql | apply o_neq | apply o_extract); exact rfl; exact rfl; exact rfl) | ((with_reducible apply o_not); exact rfl; exact rfl) | ((with_reducible first | apply o_add | apply o_sub | apply o_mul); exact rfl; exact rfl; exact rfl; (constructor <;> omega)) | ((with_reducible apply o_pick_f); exact rfl; exact fF_; exact rfl; exact rfl) | ((with_reducible apply o_idx); infer_instance; infer_instance; exact rfl; exact rfl; (first | exact rfl | omega); exact rfl; (first | assumption | omega | decide)) | ((with_reducible first | apply g_run); exact rfl; exact gG_) | ((with_reducible first | apply c_seq | apply c_block | apply c_region | apply c_nil | apply c_ret | apply c_exit | apply c_skip)) | ((with_reducible first | apply e_then | apply e_then_ret | apply e_then_exit | apply e_in | apply e_in_ret | apply e_in_same)))
        refine l_again (i + 1) (show i + 1 ≤ row.length by omega) (show row.length - (i + 1) < row.length - i by omega) ?_ ?_
        · (try dsimp only); rw [show base + (i + 1) = base + i + 1 from rfl, hv2]; exact fS_
        · exact hS_
    obtain rfl : i = row.length := by omega
    as_aux_lemma =>
      repeat' (first | ((with_reducible apply c_cond_f); exact rfl; exact decide_eq_false (by omega)) | ((with_reducible first | apply o_move | apply o_assign | apply o_faddr0 | apply o_not_d | apply o_conv); exact rfl; exact rfl) | ((with_reducible first | apply o_lss | apply o_leq | apply o_eql | apply o_neq | apply o_extract); exact rfl; exact rfl; exact rfl) | ((with_reducible first | apply o_add | apply o_sub | apply o_mul); exact rfl; exact rfl; exact rfl; (constructor <;> omega)) | ((with_reducible first | apply c_seq | apply c_block | apply c_region | apply c_nil | apply c_ret | apply c_exit | apply c_skip)) | ((with_reducible first | apply e_then | apply e_then_ret | apply e_then_exit | apply e_in | apply e_in_ret | apply e_in_same)))
      refine l_again (j + 1) (show j + 1 ≤ X.length by omega) (show X.length - (j + 1) < X.length - j by omega) ?_ ?_
      · (try dsimp only); rw [hnx]; exact fS_
      · exact hS_
  obtain rfl : j = X.length := by omega
  rw [List.take_length, hOl]
  have hlen1 : (its.map Plt.rtItem).length = its.length := List.length_map _
  repeat' (first | ((with_reducible apply c_cond_f); exact rfl; exact decide_eq_false (by omega)) | ((with_reducible apply o_pick_t); exact rfl; exact decide_eq_true (by omega); exact rfl; exact rfl) | ((with_reducible apply g_run); exact rfl; exact decide_eq_true (by omega)) | ((first | ((with_reducible apply o_call_pure (f := 16)); exact rfl) | ((with_reducible apply q_call_pure (f := 16)); exact rfl; kernel_rfl; exact rfl; exact sJ_)); exact eV_; exact (fun w _ => awake_calls w)) | ((with_reducible first | apply o_move | apply o_assign | apply o_faddr0 | apply o_not_d | apply o_conv); exact rfl; exact rfl) | ((with_reducible apply gdo_load); first | refine wo_load (h := ?_) | refine wo_loadAll (h := ?_) | refine wo_loadC (h := ?_) | refine wo_ldV (h := ?_) | refine wo_ldF (h := ?_)) | ((with_reducible first | apply o_lss | apply o_leq | apply o_eql | apply o_neq | apply o_extract); exact rfl; exact rfl; exact rfl) | ((with_reducible apply o_len); infer_instance; exact rfl; exact rfl) | ((with_reducible first | apply c_seq | apply c_block | apply c_region | apply c_nil | apply c_ret | apply c_exit | apply c_skip)) | ((with_reducible first | apply e_then | apply e_then_ret | apply e_then_exit | apply e_in | apply e_in_ret | apply e_in_same)))
  apply r_body; apply res1 Try.results9; exact rV_; intro w' hw
  exact ⟨rfl, hbel1.trans ((hw.below (show AO _ from by exact aO_)).mono hbel1.size)⟩
end Go.Proofs.Ytkhaemjoekfhiaa
namespace Go.Proofs.Ytkhaemjoekfhiaa
open Go Go.ChangeShapes Go.WideShapes Go.ChangeAt Go.RowKit Go.Sx
theorem own : ownKnob Try.prog.godebug = none := by kernel_rfl
theorem laidOut : laidOutB Try.prog = true := by kernel_rfl
theorem cellsB : Try.prog.cellsOf 5 = 1 := by kernel_rfl
section
variable {H : Type} {enc : TypeId × Value → H} {w : World}
set_option maxRecDepth 100000 in
theorem arg_u8 {r : Reach} {b0 : Nat} {v : Value} {d : DataW H} {ps : List MemPlace} (hv : Value.okWide Try.prog w r b0 5 v) (h : DataW.Trod enc Try.prog w 0 (fun _ => true) true 5 v d ps) : ∃ n, v = .int .u8 n ∧ (0 ≤ n ∧ n ≤ 255) := by
  obtain ⟨n, rfl, _, _, hw⟩ := open_int Try.underlying5 hv h
  refine ⟨n, rfl, ?_⟩
  simp only [Lit.wf, Bool.and_eq_true, decide_eq_true_eq] at hw
  exact hw
set_option maxRecDepth 100000 in
theorem rd_byte {cs : List Value} (h : Rd enc Try.prog w 5 cs) : ∃ x : UInt8, cs = encB x ∧ True := by
  obtain ⟨n, rfl, hw⟩ := Rd.int Try.underlying5 h
  simp only [Lit.wf, Bool.and_eq_true, decide_eq_true_eq] at hw
  have h0 : 0 ≤ n := hw.1
  have h1 : n ≤ 255 := hw.2
  refine ⟨UInt8.ofNat n.toNat, ?_, trivial⟩
  unfold encB
  have : (UInt8.ofNat n.toNat).toNat = n.toNat := by
    rw [UInt8.toNat_ofNat']
    omega
  rw [this]
  congr 2
  omega
set_option maxRecDepth 100000 in
theorem arg_bytes {r : Reach} {b0 : Nat} {v : Value} {d : DataW H} {ps : List MemPlace} (hv : Value.okWide Try.prog w r b0 22 v) (h : DataW.Trod enc Try.prog w 0 (fun _ => true) true 22 v d ps) : ∃ l : List UInt8, SV w 1 encB v l := by
  obtain ⟨a, len, cap, rfl⟩ := okWide_slice Try.underlying22 hv
  obtain ⟨v', xs, h1, h2, _⟩ := rd_slice (good := fun _ => True) Try.underlying22 cellsB (by decide) encB_len (fun cs h => rd_byte h) (Rd.of h)
  simp only [Value.cells] at h1
  obtain rfl : Value.slice a len cap = v' := by simpa using h1
  exact ⟨xs, h2⟩
end
end Go.Proofs.Ytkhaemjoekfhiaa
namespace Go.Proofs.Ytkhaemjoekfhiaa
open Go Go.ChangeShapes Go.WideShapes Go.ChangeAt Go.RowKit Go.Sx
set_option maxRecDepth 100000 in
theorem plantRoutes_lifted (os : Os) (started : os.Started) (H : Type) (enc : TypeId × Value → H) :
    ReturnsInHanded {} Try.checked os 9 .any (Rows.plantRoutesSpec.pre6 enc Try.prog Try.f9 Rows.plantRoutesRow.domain false) (Rows.plantRoutesSpec.post enc Try.prog Try.f9 false true false false) := by
  refine returnsInHanded_of_change (C := Try.checked) own started (by kernel_rfl) Try.func9
    (ChangeSpec.witness6 (enc := enc) (C := Try.checked) false ⟨#[], #[.int .u8 0, .int .u8 0, .slice none 0 0], []⟩ 8 (by kernel_rfl) (by kernel_rfl) (by kernel_rfl) (by kernel_rfl)) ?_
  intro W base args ds gs before hval0 hW hcnd _
  have hval : ∀ (j : Nat) t v, Try.f9.params[j]? = some t → args[j]? = some v → Value.okWide Try.prog W .any base t v := hval0
  have hW' := hW
  obtain ⟨p, q, hA0, hV, rfl, hfz, hnd⟩ := hW
  have hA : DataW.TrodAll enc Try.prog W 0 (fun _ => true) true Try.f9.params.toList args.toList ds p := hA0
  rw [Try.params9] at hA hval
  obtain ⟨v0, vs0, d0, ds0, p0, q0, hargs, rfl, rfl, h0, r0⟩ := trodAll_cons hA
  obtain ⟨v1, vs1, d1, ds1, p1, q1, rfl, rfl, rfl, h1, r1⟩ := trodAll_cons r0
  obtain ⟨v2, vs2, d2, ds2, p2, q2, rfl, rfl, rfl, h2, r2⟩ := trodAll_cons r1
  obtain ⟨rfl, rfl, rfl⟩ := trodAll_nil r2
  obtain rfl : args = #[v0, v1, v2] := by cases args; simp_all
  obtain ⟨rfl, rfl⟩ := trodVars_none hV
  have lt0 := Rd.lt h0
  have hv0 := hval 0 5 v0 rfl rfl
  have lt1 := Rd.lt h1
  have hv1 := hval 1 5 v1 rfl rfl
  have lt2 := Rd.lt h2
  have hv2 := hval 2 22 v2 rfl rfl
  clear hA0 hval0
  obtain ⟨n0, rfl, ha0⟩ := arg_u8 hv0 h0
  obtain ⟨n1, rfl, ha1⟩ := arg_u8 hv1 h1
  obtain ⟨bs, s5⟩ := arg_bytes hv2 h2
  refine (routes_calls W ha0 ha1 s5).mono fun e W' ⟨he, bel⟩ => ?_
  subst he
  exact ⟨_, rfl, _, _, _, [], _, [], hW', trodAll_mk1 (shut_bool Try.underlying4 _), (trodAll_cons_mk (Below.trod laidOut (by kernel_rfl) (of_decide_eq_true (by kernel_rfl)) h0 bel lt0) (trodAll_cons_mk (Below.trod laidOut (by kernel_rfl) (of_decide_eq_true (by kernel_rfl)) h1 bel lt1) (trodAll_cons_mk (Below.trod laidOut (by kernel_rfl) (of_decide_eq_true (by kernel_rfl)) h2 bel lt2) trodAll_mk0))), rfl, bel.frame _, fun h => by cases h⟩
theorem plantRoutes_proved : Rows.PlantRoutesSaid :=
  OpenClaim.holds_of_wide 9 Try.f9 rfl rfl rfl rfl rfl rfl rfl ⟨rfl, rfl, rfl, rfl, rfl⟩ rfl rfl rfl rfl rfl (by kernel_rfl) Try.func9 (by kernel_rfl)
    (of_decide_eq_true (by kernel_rfl)) (by unfold Func.isWrapper; first | (rw [if_pos (by decide +kernel)]; kernel_rfl) | (rw [if_neg (by decide +kernel)]; exact ⟨rfl, rfl⟩))
    (fun os started H enc _ => plantRoutes_lifted os started H enc)
end Go.Proofs.Ytkhaemjoekfhiaa
