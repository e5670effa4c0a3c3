/- A part of the proofs of this seat: a small logic of walks, plain laws, and what some of the program's functions compute, shown by walks through their code. Conditions: the hypotheses that each theorem names. -/
import Derived.Test.YtkhaemjoekfhiaaZPTimes3
import Derived.Test.YtkhaemjoekfhiaaZPTimes9
import Derived.Test.YtkhaemjoekfhiaaZPTimes8
set_option linter.unusedSimpArgs false
set_option linter.unusedVariables false
set_option linter.unusedSectionVars false
namespace Go.Proofs.Ytkhaemjoekfhiaa
open Go Go.Sx Go.RowKit
attribute [local irreducible] WL WC WQ WR WB WF QB St Exit.then Exit.inBlock Exit.noGoto bodyPost roundPost beginK YR RG BM Calls B AgainD MeetD
/-! ## built -/
/-- What built leaves. -/
def builtφ (p : Plt.Plant) (v : Value) (N : List Ent) : Prop := ∃ am cm ai ci ap cp ds ys NM NI NP NX, v = .agg #[.slice am p.ms.length cm, .slice ai p.items.length ci, .slice ap p.passes.length cp] ∧
  (OW 61 5 encMD (.slice am p.ms.length cm) ds NM ∧ OW 38 3 encItem (.slice ai p.items.length ci) p.items NI ∧ OW 58 6 encPD (.slice ap p.passes.length cp) ys NP) ∧ (N = NM ++ (NI ++ (NP ++ NX)) ∧ ∀ x ∈ NX, x.own = true) ∧ (ds.length = p.ms.length ∧ ys.length = p.passes.length) ∧
  Shw NX (fun w => ∀ (i : Nat) (d : MD) (m : Plt.Mach), ds[i]? = some d → p.ms[i]? = some m → MachV w d m) ∧ Shw NX (fun w => ∀ (i : Nat) (d : PD) (y : Plt.Pass), ys[i]? = some d → p.passes[i]? = some y → PassV w d y)
set_option maxHeartbeats 16000000 in
set_option maxRecDepth 100000 in
theorem built_calls {v0 v1 v2 v3 : Value} {x : Plt.Sk} (w : World) (h0 : SV w 1 encB v0 x.ms) (h1 : SV w 1 encB v1 x.shs) (h2 : SV w 1 encB v2 x.its) (h3 : SV w 1 encB v3 x.ps) :
    Calls Try.prog 10 #[.agg #[v0, v1, v2, v3]] w fun e w' => ∃ v N, e = .returned v ∧ builtφ (Plt.built x) v N ∧ Rep w w' N ∧ ∀ x ∈ N, x.own = true := by
  obtain ⟨a0, c0, rfl, hc0, hop0⟩ := h0.open
  obtain ⟨a1, c1, rfl, hc1, hop1⟩ := h1.open
  obtain ⟨a2, c2, rfl, hc2, hop2⟩ := h2.open
  obtain ⟨a3, c3, rfl, hc3, hop3⟩ := h3.open
  have nb8 := fun (l : List UInt8) (i : Nat) => Plt.nb_bd l i
  have nb0 := nb8 x.ms 0
  refine f_enter1 Try.func10 rfl Try.ntmps10 rfl (Rep.start w) ?_
  repeat' (first | ((with_reducible first | apply o_move | apply o_assign | apply o_faddr0 | apply o_conv); exact rfl; exact rfl) | ((with_reducible apply o_alloc); exact rfl; intro _) | ((with_reducible apply o_box); exact rfl; exact rfl; exact rfl; intro _) | ((with_reducible first | apply c_seq | apply c_block | apply c_region | apply c_nil | apply c_ret | apply c_exit | apply c_skip)) | ((with_reducible first | apply e_then | apply e_then_ret | apply e_then_exit | apply e_in | apply e_in_ret | apply e_in_same)))
  rename_i b1 b2 b3
  apply c_loop (σ := Nat × (Option Addr × Nat) × List MD × List Ent × List Ent) (Fs := fun t => [(4, .int .i64 t.1), (3, ptr b3), (2, ptr b2), (1, ptr b1)])
    (Ls := fun t => ⟨b3, Ce [.slice t.2.1.1 t.2.2.1.length t.2.1.2, .slice none 0 0, .slice none 0 0] 29, true⟩ :: ⟨b2, Ce [.slice none 0 0, .slice none 0 0, .slice none 0 0] 29, true⟩ :: ⟨b1, Ce [.slice a0 x.ms.length c0, .slice a1 x.shs.length c1, .slice a2 x.its.length c2, .slice a3 x.ps.length c3] 24, true⟩ :: (t.2.2.2.1 ++ (t.2.2.2.2 ++ [])))
    (I := fun t => t.1 ≤ (1 + Plt.nb x.ms 0 % 3).toNat ∧ t.2.2.1.length = t.1 ∧ OW 61 5 encMD (.slice t.2.1.1 t.2.2.1.length t.2.1.2) t.2.2.1 t.2.2.2.1 ∧ (∀ e ∈ t.2.2.2.2, e.own = true) ∧ Shw t.2.2.2.2 (fun w => ∀ (i : Nat) (d : MD) (m : Plt.Mach), t.2.2.1[i]? = some d → (Plt.bMsN x.ms x.shs t.1)[i]? = some m → MachV w d m))
    (μ := fun t => (1 + Plt.nb x.ms 0 % 3).toNat - t.1) (s0 := (0, (none, 0), [], [], []))
  · exact ⟨Nat.zero_le _, rfl, OW.nil, by simp, fun _ _ _ _ _ _ i d m hd _ => by simp at hd⟩
  · exact fS_
  · exact hS_
  rintro ⟨i, ⟨am, cm⟩, ds, NM, NX⟩ ⟨hi, hdl, hOM, oX, hMX⟩
  dsimp only at hi hdl hOM oX hMX ⊢
  have oM := hOM.own
  by_cases hlt : i < (1 + Plt.nb x.ms 0 % 3).toNat
  · have nb1 := nb8 x.ms (i + 1)
    have nb2 := nb8 x.ms (i + 2)
    have nb3 := nb8 x.ms (i + 3)
    have nbs := nb8 x.shs i
    have nbs1 := nb8 x.shs (i + 1)
    repeat' (first | ((with_reducible apply c_cond_t); exact rfl; exact decide_eq_true (by omega)) | ((first | ((with_reducible apply o_call_pure (f := 23)); exact rfl) | ((with_reducible apply q_call_pure (f := 23)); exact rfl; kernel_rfl; exact rfl; exact sJ_)); exact eV_; exact (fun w hw => number_is (i := 0) (by omega) (by omega) rfl w (h0.keep hw (by exact aO_)))) | ((first | ((with_reducible apply o_call_pure (f := 23)); exact rfl) | ((with_reducible apply q_call_pure (f := 23)); exact rfl; kernel_rfl; exact rfl; exact sJ_)); exact eV_; exact (fun w hw => number_is (i := i + 1) (by omega) (by omega) rfl w (h0.keep hw (by exact aO_)))) | ((first | ((with_reducible apply o_call_pure (f := 23)); exact rfl) | ((with_reducible apply q_call_pure (f := 23)); exact rfl; kernel_rfl; exact rfl; exact sJ_)); exact eV_; exact (fun w hw => number_is (i := i + 2) (by omega) (by omega) rfl w (h0.keep hw (by exact aO_)))) | ((with_reducible first | apply o_move | apply o_assign | apply o_faddr0 | apply o_conv); exact rfl; exact rfl) | ((with_reducible apply gdo_load); first | refine wo_load (h := ?_) | refine wo_loadAll (h := ?_) | refine wo_loadC (h := ?_) | refine wo_ldV (h := ?_) | refine wo_ldF (h := ?_)) | ((with_reducible first | apply o_lss | apply o_eql | apply o_neq); exact rfl; exact rfl; exact rfl) | ((with_reducible first | apply o_add | apply o_sub | apply o_mul); exact rfl; exact rfl; exact rfl; (constructor <;> omega)) | ((with_reducible first | apply o_quo | apply o_rem); exact rfl; exact rfl; exact rfl; omega) | ((with_reducible first | apply c_seq | apply c_block | apply c_region | apply c_nil | apply c_ret | apply c_exit | apply c_skip)) | ((with_reducible first | apply e_then | apply e_then_ret | apply e_then_exit | apply e_in | apply e_in_ret | apply e_in_same)) | ((with_reducible apply c_regionD0 (id := 5) []); kernel_rfl; kernel_rfl) | ((with_reducible apply q_nil); try simp only [ents, List.cons_append, List.nil_append]) | ((with_reducible first | apply q_move | apply q_assign | apply q_faddr0); exact rfl; exact rfl) | ((with_reducible apply gdq_load); first | refine wq_load (h := ?_) | refine wq_loadAll (h := ?_) | refine wq_loadC (h := ?_) | refine wq_ldV (h := ?_) | refine wq_ldF (h := ?_)) | ((with_reducible first | apply q_add | apply q_sub | apply q_mul); exact rfl; exact rfl; exact rfl; (constructor <;> omega)) | ((with_reducible first | apply q_quo | apply q_rem); exact rfl; exact rfl; exact rfl; omega) | ((with_reducible apply gdq_build); first | refine wq_build (h := ?_)) | ((with_reducible apply gdq_store); first | refine wq_storeAE (h := ?_)) | ((with_reducible apply q_alloc); exact rfl; intro _))
    rename_i b5
    obtain ⟨nc, hnc⟩ : ∃ nc, (1 + Plt.nb x.ms (i + 3) % 4).toNat = nc := ⟨_, rfl⟩
    obtain ⟨ns, hns⟩ : ∃ ns, (2 + Plt.nb x.shs (i + 1) % 4).toNat = ns := ⟨_, rfl⟩
    obtain ⟨sw, hsw⟩ : ∃ sw, Plt.nb x.ms (i + 1) % 4 = sw := ⟨_, rfl⟩
    obtain ⟨ra, hra⟩ : ∃ ra, 1 + Plt.nb x.ms (i + 2) % 5 = ra := ⟨_, rfl⟩
    have hbm : Plt.bMach x.ms x.shs i = ⟨5 + i, sw, ra, Plt.bCaps x.ms i nc, Plt.bShs x.shs i ns⟩ := by unfold Plt.bMach; rw [hnc, hns, hsw, hra]
    rw [hsw, hra]
    apply c_loop (σ := Nat × (Option Addr × Nat) × List Ent) (Fs := fun t => [(6, .int .i64 t.1), (5, ptr b5), (4, .int .i64 i), (3, ptr b3), (2, ptr b2), (1, ptr b1)])
      (Ls := fun t => ⟨b5, Ce [.int .i64 (5 + i), .int .i64 sw, .int .i64 ra, .slice t.2.1.1 (Plt.bCaps x.ms i t.1).length t.2.1.2, .slice none 0 0] 61, true⟩ :: ⟨b3, Ce [.slice am ds.length cm, .slice none 0 0, .slice none 0 0] 29, true⟩ :: ⟨b2, Ce [.slice none 0 0, .slice none 0 0, .slice none 0 0] 29, true⟩ :: ⟨b1, Ce [.slice a0 x.ms.length c0, .slice a1 x.shs.length c1, .slice a2 x.its.length c2, .slice a3 x.ps.length c3] 24, true⟩ :: (t.2.2 ++ (NM ++ (NX ++ []))))
      (I := fun t => t.1 ≤ nc ∧ OW 3 1 encI (.slice t.2.1.1 (Plt.bCaps x.ms i t.1).length t.2.1.2) (Plt.bCaps x.ms i t.1) t.2.2) (μ := fun t => nc - t.1) (s0 := (0, (none, 0), []))
    · exact ⟨Nat.zero_le _, OW.nil⟩
    · exact fS_
    · exact hS_
    rintro ⟨k, ⟨ac, cc⟩, NC⟩ ⟨hk, hOC⟩
    dsimp only at hk hOC ⊢
    have oC := hOC.own
    have hcl := Plt.bCaps_len x.ms i k
    by_cases hlt2 : k < nc
    · have nb4 := nb8 x.ms (i + k + 4)
      have e1 := Plt.bCaps_succ x.ms i k
      as_aux_lemma =>
        repeat' (first | ((with_reducible apply c_cond_t); exact rfl; exact decide_eq_true (by omega)) | ((first | ((with_reducible apply o_call_pure (f := 23)); exact rfl) | ((with_reducible apply q_call_pure (f := 23)); exact rfl; kernel_rfl; exact rfl; exact sJ_)); exact eV_; exact (fun w hw => number_is (i := i + 3) (by omega) (by omega) rfl w (h0.keep hw (by exact aO_)))) | ((first | ((with_reducible apply o_call_pure (f := 23)); exact rfl) | ((with_reducible apply q_call_pure (f := 23)); exact rfl; kernel_rfl; exact rfl; exact sJ_)); exact eV_; exact (fun w hw => number_is (i := i + k + 4) (by omega) (by omega) rfl w (h0.keep hw (by exact aO_)))) | (apply o_appH (enc := encI) (ys := [(1 + Plt.nb x.ms (i + k + 4) % 12)]); infer_instance; infer_instance; infer_instance; exact rfl; exact encI_len; exact encI_one; exact rfl; exact rfl; exact rfl; assumption; exact rL_; (exact fun w hw => SV.lit [(1 + Plt.nb x.ms (i + k + 4) % 12)] encI_len hw (by exact aT_) rfl rfl (by decide)); (first | decide | (constructor <;> (try simp only [List.length_cons, List.length_nil]) <;> omega) | (constructor <;> simp <;> omega)); intro a_ cp_ N_ hO_; have oN_ := hO_.own; (try simp only [List.nil_append, List.append_assoc] at hO_); (try simp only [List.append_eq, List.append_assoc, List.cons_append, List.nil_append])) | ((with_reducible first | apply o_move | apply o_assign | apply o_faddr0 | apply o_conv); exact rfl; exact rfl) | ((with_reducible apply gdo_load); first | refine wo_load (h := ?_) | refine wo_loadAll (h := ?_) | refine wo_loadC (h := ?_) | refine wo_ldV (h := ?_) | refine wo_ldF (h := ?_)) | ((with_reducible first | apply o_lss | apply o_eql | apply o_neq); exact rfl; exact rfl; exact rfl) | ((with_reducible first | apply o_add | apply o_sub | apply o_mul); exact rfl; exact rfl; exact rfl; (constructor <;> omega)) | ((with_reducible first | apply o_quo | apply o_rem); exact rfl; exact rfl; exact rfl; omega) | ((with_reducible apply gdo_store); first | refine wo_store1 (h := ?_) | refine wo_storeA (h := ?_)) | ((with_reducible first | apply c_seq | apply c_block | apply c_region | apply c_nil | apply c_ret | apply c_exit | apply c_skip)) | ((with_reducible first | apply e_then | apply e_then_ret | apply e_then_exit | apply e_in | apply e_in_ret | apply e_in_same)) | ((with_reducible apply c_regionD (id := 9) [] 12); kernel_rfl; kernel_rfl; simp only [List.take_succ_cons, List.take_zero, List.drop_succ_cons, List.drop_zero]) | ((with_reducible apply q_nil); try simp only [ents, List.cons_append, List.nil_append]) | ((with_reducible first | apply q_move | apply q_assign | apply q_faddr0); exact rfl; exact rfl) | ((with_reducible apply gdq_load); first | refine wq_load (h := ?_) | refine wq_loadAll (h := ?_) | refine wq_loadC (h := ?_) | refine wq_ldV (h := ?_) | refine wq_ldF (h := ?_)) | ((with_reducible first | apply q_add | apply q_sub | apply q_mul); exact rfl; exact rfl; exact rfl; (constructor <;> omega)) | ((with_reducible first | apply q_quo | apply q_rem); exact rfl; exact rfl; exact rfl; omega) | ((with_reducible apply gdq_buildSlice); refine wq_buildSlice (h := fun _ => ?_)))
        rw [← e1] at hO_ ⊢
        refine l_again (k + 1, (a_, cp_), N_) ⟨by dsimp only; omega, hO_⟩ (by dsimp only; omega) ?_ ?_
        · exact fS_
        · exact hS_
    obtain rfl : k = nc := by omega
    rw [hcl]
    repeat' (first | ((with_reducible apply c_cond_f); exact rfl; exact decide_eq_false (by omega)) | ((first | ((with_reducible apply o_call_pure (f := 23)); exact rfl) | ((with_reducible apply q_call_pure (f := 23)); exact rfl; kernel_rfl; exact rfl; exact sJ_)); exact eV_; exact (fun w hw => number_is (i := i + 3) (by omega) (by omega) rfl w (h0.keep hw (by exact aO_)))) | ((first | ((with_reducible apply o_call_pure (f := 23)); exact rfl) | ((with_reducible apply q_call_pure (f := 23)); exact rfl; kernel_rfl; exact rfl; exact sJ_)); exact eV_; exact (fun w hw => number_is (i := i) (by omega) (by omega) rfl w (h1.keep hw (by exact aO_)))) | ((with_reducible first | apply o_move | apply o_assign | apply o_faddr0 | apply o_conv); exact rfl; exact rfl) | ((with_reducible apply gdo_load); first | refine wo_load (h := ?_) | refine wo_loadAll (h := ?_) | refine wo_loadC (h := ?_) | refine wo_ldV (h := ?_) | refine wo_ldF (h := ?_)) | ((with_reducible first | apply o_lss | apply o_eql | apply o_neq); exact rfl; exact rfl; exact rfl) | ((with_reducible first | apply o_add | apply o_sub | apply o_mul); exact rfl; exact rfl; exact rfl; (constructor <;> omega)) | ((with_reducible first | apply o_quo | apply o_rem); exact rfl; exact rfl; exact rfl; omega) | ((with_reducible first | apply c_seq | apply c_block | apply c_region | apply c_nil | apply c_ret | apply c_exit | apply c_skip)) | ((with_reducible first | apply e_then | apply e_then_ret | apply e_then_exit | apply e_in | apply e_in_ret | apply e_in_same)))
    apply c_loop (σ := Nat × (Option Addr × Nat) × List Ent) (Fs := fun t => [(8, .int .i64 t.1), (7, .int .i64 (Plt.bT x.shs i t.1)), (5, ptr b5), (4, .int .i64 i), (3, ptr b3), (2, ptr b2), (1, ptr b1)])
      (Ls := fun t => ⟨b5, Ce [.int .i64 (5 + i), .int .i64 sw, .int .i64 ra, .slice ac k cc, .slice t.2.1.1 (Plt.bShs x.shs i t.1).length t.2.1.2] 61, true⟩ :: ⟨b3, Ce [.slice am ds.length cm, .slice none 0 0, .slice none 0 0] 29, true⟩ :: ⟨b2, Ce [.slice none 0 0, .slice none 0 0, .slice none 0 0] 29, true⟩ :: ⟨b1, Ce [.slice a0 x.ms.length c0, .slice a1 x.shs.length c1, .slice a2 x.its.length c2, .slice a3 x.ps.length c3] 24, true⟩ :: (t.2.2 ++ (NC ++ (NM ++ (NX ++ [])))))
      (I := fun t => t.1 ≤ ns ∧ OW 70 2 encSh (.slice t.2.1.1 (Plt.bShs x.shs i t.1).length t.2.1.2) (Plt.bShs x.shs i t.1) t.2.2) (μ := fun t => ns - t.1) (s0 := (0, (none, 0), []))
    · exact ⟨Nat.zero_le _, OW.nil⟩
    · exact fS_
    · exact hS_
    rintro ⟨k', ⟨as_, cs_⟩, NS_⟩ ⟨hk', hOS⟩
    dsimp only at hk' hOS ⊢
    have oS := hOS.own
    have hsl := Plt.bShs_len x.shs i k'
    have htb := Plt.bT_bd x.shs i k'
    by_cases hlt3 : k' < ns
    · have nb5 := nb8 x.shs (i + k' + 2)
      have nb6 := nb8 x.shs (i + k' + 3)
      have e1 := Plt.bShs_succ x.shs i k'
      have e2 : Plt.bT x.shs i (k' + 1) = Plt.bT x.shs i k' + 1 + Plt.nb x.shs (i + k' + 2) % 12 + Plt.nb x.shs (i + k' + 3) % 5 := rfl
      unfold Plt.bSh at e1
      as_aux_lemma =>
        repeat' (first | ((with_reducible apply c_cond_t); exact rfl; exact decide_eq_true (by omega)) | ((first | ((with_reducible apply o_call_pure (f := 23)); exact rfl) | ((with_reducible apply q_call_pure (f := 23)); exact rfl; kernel_rfl; exact rfl; exact sJ_)); exact eV_; exact (fun w hw => number_is (i := i + 1) (by omega) (by omega) rfl w (h1.keep hw (by exact aO_)))) | ((first | ((with_reducible apply o_call_pure (f := 23)); exact rfl) | ((with_reducible apply q_call_pure (f := 23)); exact rfl; kernel_rfl; exact rfl; exact sJ_)); exact eV_; exact (fun w hw => number_is (i := i + k' + 2) (by omega) (by omega) rfl w (h1.keep hw (by exact aO_)))) | (apply o_appH (enc := encSh) (ys := [(⟨Plt.bT x.shs i k', Plt.bT x.shs i k' + 1 + Plt.nb x.shs (i + k' + 2) % 12⟩ : Plt.Sh)]); infer_instance; infer_instance; infer_instance; exact rfl; exact encSh_len; exact encSh_one; exact rfl; exact rfl; exact rfl; assumption; exact rL_; (exact fun w hw => SV.lit [(⟨Plt.bT x.shs i k', Plt.bT x.shs i k' + 1 + Plt.nb x.shs (i + k' + 2) % 12⟩ : Plt.Sh)] encSh_len hw (by exact aT_) rfl rfl (by decide)); (first | decide | (constructor <;> (try simp only [List.length_cons, List.length_nil]) <;> omega) | (constructor <;> simp <;> omega)); intro a_ cp_ N_ hO_; have oN_ := hO_.own; (try simp only [List.nil_append, List.append_assoc] at hO_); (try simp only [List.append_eq, List.append_assoc, List.cons_append, List.nil_append])) | ((with_reducible first | apply o_move | apply o_assign | apply o_faddr0 | apply o_conv); exact rfl; exact rfl) | ((with_reducible apply gdo_load); first | refine wo_load (h := ?_) | refine wo_loadAll (h := ?_) | refine wo_loadC (h := ?_) | refine wo_ldV (h := ?_) | refine wo_ldF (h := ?_)) | ((with_reducible first | apply o_lss | apply o_eql | apply o_neq); exact rfl; exact rfl; exact rfl) | ((with_reducible first | apply o_add | apply o_sub | apply o_mul); exact rfl; exact rfl; exact rfl; (constructor <;> omega)) | ((with_reducible first | apply o_quo | apply o_rem); exact rfl; exact rfl; exact rfl; omega) | ((with_reducible apply gdo_store); first | refine wo_store1 (h := ?_) | refine wo_storeA (h := ?_)) | ((with_reducible first | apply c_seq | apply c_block | apply c_region | apply c_nil | apply c_ret | apply c_exit | apply c_skip)) | ((with_reducible first | apply e_then | apply e_then_ret | apply e_then_exit | apply e_in | apply e_in_ret | apply e_in_same)) | ((with_reducible apply c_regionD (id := 14) [] 16); kernel_rfl; kernel_rfl; simp only [List.take_succ_cons, List.take_zero, List.drop_succ_cons, List.drop_zero]) | ((with_reducible apply q_nil); try simp only [ents, List.cons_append, List.nil_append]) | ((with_reducible first | apply q_move | apply q_assign | apply q_faddr0); exact rfl; exact rfl) | ((with_reducible apply gdq_load); first | refine wq_load (h := ?_) | refine wq_loadAll (h := ?_) | refine wq_loadC (h := ?_) | refine wq_ldV (h := ?_) | refine wq_ldF (h := ?_)) | ((with_reducible first | apply q_add | apply q_sub | apply q_mul); exact rfl; exact rfl; exact rfl; (constructor <;> omega)) | ((with_reducible first | apply q_quo | apply q_rem); exact rfl; exact rfl; exact rfl; omega) | ((with_reducible apply gdq_build); first | refine wq_build (h := ?_)) | ((with_reducible apply gdq_buildSlice); refine wq_buildSlice (h := fun _ => ?_)))
        rw [← e1] at hO_ ⊢
        obtain ⟨b', s', rfl, rfl⟩ := OW.some hO_ (by rw [Plt.bShs_len]; omega)
        simp only [List.cons_append, List.nil_append]
        have hx : (Plt.bShs x.shs i (k' + 1))[k']? = some ⟨Plt.bT x.shs i k', Plt.bT x.shs i k' + 1 + Plt.nb x.shs (i + k' + 2) % 12⟩ := by rw [e1, List.getElem?_append_right (by omega)]; simp [hsl]
        have q1 : ∀ (j : Nat) (u : Value), ([.int .i64 (Plt.bT x.shs i k'), .int .i64 (Plt.bT x.shs i k' + 1 + Plt.nb x.shs (i + k' + 2) % 12)] : List Value)[j]? = some u → ((Plt.bShs x.shs i (k' + 1)).flatMap encSh ++ s').toArray[0 + k' * 2 + j]? = some u := (Pat.flat encSh_len _ s').get hx
        have hsl1 := Plt.bShs_len x.shs i (k' + 1)
        repeat' (first | ((first | ((with_reducible apply o_call_pure (f := 23)); exact rfl) | ((with_reducible apply q_call_pure (f := 23)); exact rfl; kernel_rfl; exact rfl; exact sJ_)); exact eV_; exact (fun w hw => number_is (i := i + k' + 3) (by omega) (by omega) rfl w (h1.keep hw (by exact aO_)))) | ((with_reducible first | apply o_move | apply o_assign | apply o_faddr0 | apply o_conv); exact rfl; exact rfl) | ((with_reducible first | apply o_add | apply o_sub | apply o_mul); exact rfl; exact rfl; exact rfl; (constructor <;> omega)) | ((with_reducible first | apply c_seq | apply c_block | apply c_region | apply c_nil | apply c_ret | apply c_exit | apply c_skip)) | ((with_reducible first | apply e_then | apply e_then_ret | apply e_then_exit | apply e_in | apply e_in_ret | apply e_in_same)) | ((with_reducible apply c_regionD0 (id := 15) []); kernel_rfl; kernel_rfl) | ((with_reducible apply q_nil); try simp only [ents, List.cons_append, List.nil_append]) | ((with_reducible first | apply q_move | apply q_assign | apply q_faddr0); exact rfl; exact rfl) | ((with_reducible apply q_faddr); exact rfl; exact rfl) | ((with_reducible apply gdq_load); first | refine wq_load (h := ?_) | refine wq_loadAll (h := ?_) | refine wq_loadC (h := ?_) | refine wq_ldV (h := ?_) | refine wq_ldF (h := ?_)) | ((with_reducible first | apply q_add | apply q_sub | apply q_mul); exact rfl; exact rfl; exact rfl; (constructor <;> omega)) | ((with_reducible first | apply q_quo | apply q_rem); exact rfl; exact rfl; exact rfl; omega) | ((with_reducible apply q_idx); infer_instance; infer_instance; exact rfl; exact rfl; (first | exact rfl | omega); exact rfl; (first | assumption | omega | decide)))
        refine l_again (k' + 1, (_, cp_), _) ⟨by dsimp only; omega, hO_⟩ (by dsimp only; omega) ?_ ?_
        · (try dsimp only); rw [e2]; exact fS_
        · simp only [List.cons_append, List.nil_append]; exact hS_
    obtain rfl : k' = ns := by omega
    rw [hsl]
    have hnx : Shw (NC ++ (NS_ ++ NX)) (fun w => ∀ (j : Nat) (d : MD) (m : Plt.Mach), (ds ++ [(⟨5 + i, sw, ra, (ac, k, cc), (as_, k', cs_)⟩ : MD)])[j]? = some d → (Plt.bMsN x.ms x.shs (i + 1))[j]? = some m → MachV w d m) := by
      rw [Plt.bMsN_succ, hbm]
      intro w0 w1 L L0 hr hw j d m hd hm
      have hml := Plt.bMsN_len x.ms x.shs i
      by_cases hj : j < ds.length
      · rw [List.getElem?_append_left hj] at hd
        rw [List.getElem?_append_left (by omega)] at hm
        exact (Shw.right (Shw.right hMX)) w0 w1 L L0 hr hw j d m hd hm
      · have : j = ds.length := by
          have h := (List.getElem?_eq_some_iff.1 hd).1
          rw [List.length_append, List.length_singleton] at h
          omega
        subst this
        rw [List.getElem?_append_right (Nat.le_refl _), Nat.sub_self] at hd
        rw [List.getElem?_append_right (by omega), hdl, hml, Nat.sub_self] at hm
        cases hd; cases hm
        rw [hcl] at hOC
        rw [hsl] at hOS
        exact ⟨rfl, rfl, rfl, (Shw.left (Shw.ow encI_len hOC)) w0 w1 L L0 hr hw, (Shw.right (Shw.left (Shw.ow encSh_len hOS))) w0 w1 L L0 hr hw⟩
    as_aux_lemma =>
      repeat' (first | ((with_reducible apply c_cond_f); exact rfl; exact decide_eq_false (by omega)) | ((first | ((with_reducible apply o_call_pure (f := 23)); exact rfl) | ((with_reducible apply q_call_pure (f := 23)); exact rfl; kernel_rfl; exact rfl; exact sJ_)); exact eV_; exact (fun w hw => number_is (i := i + 1) (by omega) (by omega) rfl w (h1.keep hw (by exact aO_)))) | (apply o_appH (enc := encMD) (ys := [(⟨5 + i, sw, ra, (ac, k, cc), (as_, k', cs_)⟩ : MD)]); infer_instance; infer_instance; infer_instance; exact rfl; exact encMD_len; exact encMD_one; exact rfl; exact rfl; exact rfl; assumption; exact rL_; (exact fun w hw => SV.lit [(⟨5 + i, sw, ra, (ac, k, cc), (as_, k', cs_)⟩ : MD)] encMD_len hw (by exact aT_) rfl rfl (by decide)); (first | decide | (constructor <;> (try simp only [List.length_cons, List.length_nil]) <;> omega) | (constructor <;> simp <;> omega)); intro a_ cp_ N_ hO_; have oN_ := hO_.own; (try simp only [List.nil_append, List.append_assoc] at hO_); (try simp only [List.append_eq, List.append_assoc, List.cons_append, List.nil_append])) | ((with_reducible first | apply o_move | apply o_assign | apply o_faddr0 | apply o_conv); exact rfl; exact rfl) | ((with_reducible apply gdo_load); first | refine wo_load (h := ?_) | refine wo_loadAll (h := ?_) | refine wo_loadC (h := ?_) | refine wo_ldV (h := ?_) | refine wo_ldF (h := ?_)) | ((with_reducible first | apply o_lss | apply o_eql | apply o_neq); exact rfl; exact rfl; exact rfl) | ((with_reducible first | apply o_add | apply o_sub | apply o_mul); exact rfl; exact rfl; exact rfl; (constructor <;> omega)) | ((with_reducible first | apply o_quo | apply o_rem); exact rfl; exact rfl; exact rfl; omega) | ((with_reducible apply gdo_store); first | refine wo_store1 (h := ?_) | refine wo_storeA (h := ?_)) | ((with_reducible apply gdo_buildSlice); refine wo_buildSlice (h := fun _ => ?_)) | ((with_reducible first | apply c_seq | apply c_block | apply c_region | apply c_nil | apply c_ret | apply c_exit | apply c_skip)) | ((with_reducible first | apply e_then | apply e_then_ret | apply e_then_exit | apply e_in | apply e_in_ret | apply e_in_same)))
      refine l_again (i + 1, (a_, cp_), ds ++ [(⟨5 + i, sw, ra, (ac, k, cc), (as_, k', cs_)⟩ : MD)], N_, NC ++ (NS_ ++ NX)) ⟨by dsimp only; omega, by simp [hdl], hO_, own_app oC (own_app oS oX), hnx⟩ (by dsimp only; omega) ?_ ?_
      · exact fS_
      · simp only [List.append_assoc]; exact hS_
  obtain rfl : i = (1 + Plt.nb x.ms 0 % 3).toNat := by omega
  have hms : Plt.bMsN x.ms x.shs (1 + Plt.nb x.ms 0 % 3).toNat = Plt.bMs x := rfl
  have hml : (Plt.bMs x).length = (1 + Plt.nb x.ms 0 % 3).toNat := Plt.bMsN_len _ _ _
  rw [hms] at hMX
  have hml3 : 1 ≤ (Plt.bMs x).length ∧ (Plt.bMs x).length ≤ 3 := by omega
  rw [← hml] at hdl
  repeat' (first | ((with_reducible apply c_cond_f); exact rfl; exact decide_eq_false (by omega)) | ((first | ((with_reducible apply o_call_pure (f := 23)); exact rfl) | ((with_reducible apply q_call_pure (f := 23)); exact rfl; kernel_rfl; exact rfl; exact sJ_)); exact eV_; exact (fun w hw => number_is (i := 0) (by omega) (by omega) rfl w (h0.keep hw (by exact aO_)))) | ((with_reducible first | apply o_move | apply o_assign | apply o_faddr0 | apply o_conv); exact rfl; exact rfl) | ((with_reducible apply gdo_load); first | refine wo_load (h := ?_) | refine wo_loadAll (h := ?_) | refine wo_loadC (h := ?_) | refine wo_ldV (h := ?_) | refine wo_ldF (h := ?_)) | ((with_reducible first | apply o_lss | apply o_eql | apply o_neq); exact rfl; exact rfl; exact rfl) | ((with_reducible first | apply o_add | apply o_sub | apply o_mul); exact rfl; exact rfl; exact rfl; (constructor <;> omega)) | ((with_reducible first | apply o_quo | apply o_rem); exact rfl; exact rfl; exact rfl; omega) | ((with_reducible first | apply c_seq | apply c_region | apply c_nil | apply c_ret | apply c_exit | apply c_skip)) | ((with_reducible first | apply e_then | apply e_then_ret | apply e_then_exit | apply e_in | apply e_in_ret | apply e_in_same)))
  clear hlt hi
  apply c_post (σ := (Option Addr × Nat) × List Ent) (Ds := fun _ => []) (Fs := fun _ => [(3, ptr b3), (2, ptr b2), (1, ptr b1)])
    (Ls := fun t => ⟨b3, Ce [.slice am ds.length cm, .slice t.1.1 (Plt.bIs x).length t.1.2, .slice none 0 0] 29, true⟩ :: ⟨b2, Ce [.slice none 0 0, .slice none 0 0, .slice none 0 0] 29, true⟩ :: ⟨b1, Ce [.slice a0 x.ms.length c0, .slice a1 x.shs.length c1, .slice a2 x.its.length c2, .slice a3 x.ps.length c3] 24, true⟩ :: (t.2 ++ (NM ++ (NX ++ []))))
    (I := fun t => OW 38 3 encItem (.slice t.1.1 (Plt.bIs x).length t.1.2) (Plt.bIs x) t.2)
  · as_aux_lemma =>
    repeat' (first | ((with_reducible first | apply c_seq | apply c_block | apply c_region | apply c_nil | apply c_ret | apply c_exit | apply c_skip)))
    apply c_loop (σ := Nat × (Option Addr × Nat) × List Ent) (Fs := fun t => [(9, .int .i64 t.1), (3, ptr b3), (2, ptr b2), (1, ptr b1)])
      (Ls := fun t => ⟨b3, Ce [.slice am ds.length cm, .slice t.2.1.1 (Plt.bIsN x.its t.1).length t.2.1.2, .slice none 0 0] 29, true⟩ :: ⟨b2, Ce [.slice none 0 0, .slice none 0 0, .slice none 0 0] 29, true⟩ :: ⟨b1, Ce [.slice a0 x.ms.length c0, .slice a1 x.shs.length c1, .slice a2 x.its.length c2, .slice a3 x.ps.length c3] 24, true⟩ :: (t.2.2 ++ (NM ++ (NX ++ []))))
      (I := fun t => t.1 ≤ min x.its.length 40 ∧ OW 38 3 encItem (.slice t.2.1.1 (Plt.bIsN x.its t.1).length t.2.1.2) (Plt.bIsN x.its t.1) t.2.2) (μ := fun t => min x.its.length 40 - t.1) (s0 := (0, (none, 0), []))
    · exact ⟨Nat.zero_le _, OW.nil⟩
    · exact fS_
    · exact hS_
    rintro ⟨i, ⟨ai, ci⟩, NI⟩ ⟨hi, hOI⟩
    dsimp only at hi hOI ⊢
    have oI := hOI.own
    have hil := Plt.bIsN_len x.its i
    by_cases hlt : i < min x.its.length 40
    · obtain ⟨y, hx⟩ : ∃ y, x.its[i]? = some y := ⟨_, List.getElem?_eq_getElem (by omega)⟩
      obtain ⟨b, off, cx, e, fz, rfl, hk, hp⟩ := hop2 (by omega)
      have g1 : cx[off + i * 1]? = some (.int .u8 (y.toNat : Int)) := hp.one hx rfl
      have hy8 := y.toNat_lt
      have hgd : x.its.getD i 0 = y := by simp [List.getD_eq_getElem?_getD, hx]
      have e1 := Plt.bIsN_succ x.its i
      unfold Plt.bItem at e1
      rw [hgd] at e1
      as_aux_lemma =>
        repeat' (first | ((with_reducible apply c_cond_t); exact rfl; exact decide_eq_true (by omega)) | ((with_reducible apply o_pick_t); exact rfl; exact decide_eq_true (by omega); exact rfl; exact rfl) | ((with_reducible apply g_run); exact rfl; exact decide_eq_true (by omega)) | ((with_reducible apply q_conv8); infer_instance; infer_instance; exact rfl; exact rfl; exact sJ_; (constructor <;> omega); exact rfl) | (apply o_appH (enc := encItem) (ys := [(⟨100 - 2 * i, (y.toNat : Int) % 9, 1 + (y.toNat : Int) / 9 % 3⟩ : Plt.Item)]); infer_instance; infer_instance; infer_instance; exact rfl; exact encItem_len; exact encItem_one; exact rfl; exact rfl; exact rfl; assumption; exact rL_; (exact fun w hw => SV.lit [(⟨100 - 2 * i, (y.toNat : Int) % 9, 1 + (y.toNat : Int) / 9 % 3⟩ : Plt.Item)] encItem_len hw (by exact aT_) rfl rfl (by decide)); (first | decide | (constructor <;> (try simp only [List.length_cons, List.length_nil]) <;> omega) | (constructor <;> simp <;> omega)); intro a_ cp_ N_ hO_; have oN_ := hO_.own; (try simp only [List.nil_append, List.append_assoc] at hO_); (try simp only [List.append_eq, List.append_assoc, List.cons_append, List.nil_append])) | ((with_reducible first | apply o_move | apply o_assign | apply o_faddr0 | apply o_conv); exact rfl; exact rfl) | ((with_reducible apply gdo_load); first | refine wo_load (h := ?_) | refine wo_loadAll (h := ?_) | refine wo_loadC (h := ?_) | refine wo_ldV (h := ?_) | refine wo_ldF (h := ?_)) | ((with_reducible first | apply o_lss | apply o_eql | apply o_neq); exact rfl; exact rfl; exact rfl) | ((with_reducible first | apply o_add | apply o_sub | apply o_mul); exact rfl; exact rfl; exact rfl; (constructor <;> omega)) | ((with_reducible apply gdo_store); first | refine wo_store1 (h := ?_) | refine wo_storeA (h := ?_)) | ((with_reducible apply o_len); infer_instance; exact rfl; exact rfl) | ((with_reducible first | apply c_seq | apply c_block | apply c_region | apply c_nil | apply c_ret | apply c_exit | apply c_skip)) | ((with_reducible first | apply e_then | apply e_then_ret | apply e_then_exit | apply e_in | apply e_in_ret | apply e_in_same)) | ((with_reducible apply c_regionD (id := 20) [] 23); kernel_rfl; kernel_rfl; simp only [List.take_succ_cons, List.take_zero, List.drop_succ_cons, List.drop_zero]) | ((with_reducible apply q_nil); try simp only [ents, List.cons_append, List.nil_append]) | ((with_reducible first | apply q_move | apply q_assign | apply q_faddr0); exact rfl; exact rfl) | ((with_reducible apply gdq_load); first | refine wq_load (h := ?_) | refine wq_loadAll (h := ?_) | refine wq_loadC (h := ?_) | refine wq_ldV (h := ?_) | refine wq_ldF (h := ?_)) | ((with_reducible first | apply q_add | apply q_sub | apply q_mul); exact rfl; exact rfl; exact rfl; (constructor <;> omega)) | ((with_reducible first | apply q_quo | apply q_rem); exact rfl; exact rfl; exact rfl; omega) | ((with_reducible apply gdq_build); first | refine wq_build (h := ?_)) | ((with_reducible apply q_idx); infer_instance; infer_instance; exact rfl; exact rfl; (first | exact rfl | omega); exact rfl; (first | assumption | omega | decide)) | ((with_reducible apply gdq_buildSlice); refine wq_buildSlice (h := fun _ => ?_)))
        rw [← e1] at hO_ ⊢
        refine l_again (i + 1, (a_, cp_), N_) ⟨by dsimp only; omega, hO_⟩ (by dsimp only; omega) ?_ ?_
        · exact fS_
        · exact hS_
    obtain rfl : i = min x.its.length 40 := by omega
    repeat' (first | ((with_reducible apply c_cond_f); exact rfl; exact decide_eq_false (by omega)) | ((with_reducible apply o_pick_t); exact rfl; exact decide_eq_true (by omega); exact rfl; exact rfl) | ((with_reducible apply o_pick_f); exact rfl; exact decide_eq_false (by omega); exact rfl; exact rfl) | ((with_reducible apply g_run); exact rfl; exact decide_eq_true (by omega)) | ((with_reducible apply g_skip); exact rfl; exact decide_eq_false (by omega); exact rfl) | ((with_reducible first | apply o_move | apply o_assign | apply o_faddr0 | apply o_conv); exact rfl; exact rfl) | ((with_reducible apply gdo_load); first | refine wo_load (h := ?_) | refine wo_loadAll (h := ?_) | refine wo_loadC (h := ?_) | refine wo_ldV (h := ?_) | refine wo_ldF (h := ?_)) | ((with_reducible first | apply o_lss | apply o_eql | apply o_neq); exact rfl; exact rfl; exact rfl) | ((with_reducible apply o_len); infer_instance; exact rfl; exact rfl) | ((with_reducible first | apply c_seq | apply c_block | apply c_region | apply c_nil | apply c_ret | apply c_exit | apply c_skip)) | ((with_reducible apply c_cond_f); exact rfl; exact fF_) | ((with_reducible first | apply e_then | apply e_then_ret | apply e_then_exit | apply e_in | apply e_in_ret | apply e_in_same)) | ((with_reducible apply g_split_d); exact rfl; intro hcond; rotate_left; intro hcond; rotate_left))
    all_goals
      refine l_meetD ((ai, ci), NI) hOI rfl ?_ ?_
      · exact fS_
      · exact hS_
  rintro ⟨⟨ai, ci⟩, NI⟩ hOI
  dsimp only at hOI ⊢
  have oI := hOI.own
  have hitl : (Plt.bIs x).length ≤ 40 := by unfold Plt.bIs; rw [Plt.bIsN_len]; omega
  generalize hI : Plt.bIs x = its at *
  generalize hM : Plt.bMs x = ms at *
  repeat' (first | ((with_reducible first | apply o_move | apply o_assign | apply o_faddr0 | apply o_conv); exact rfl; exact rfl) | ((with_reducible first | apply c_seq | apply c_block | apply c_region | apply c_nil | apply c_ret | apply c_exit | apply c_skip)) | ((with_reducible first | apply e_then | apply e_then_ret | apply e_then_exit | apply e_in | apply e_in_ret | apply e_in_same)))
  apply c_loop (σ := Nat × ((Option Addr × Nat) × List Ent) × ((Option Addr × Nat) × List PD × List Ent) × List Ent) (Fs := fun t => [(11, .int .i64 t.1), (10, .slice t.2.1.1.1 (Plt.bAt ms its x.ps t.1).1.length t.2.1.1.2), (3, ptr b3), (2, ptr b2), (1, ptr b1)])
    (Ls := fun t => ⟨b3, Ce [.slice am ds.length cm, .slice ai its.length ci, .slice t.2.2.1.1.1 t.2.2.1.2.1.length t.2.2.1.1.2] 29, true⟩ :: ⟨b2, Ce [.slice none 0 0, .slice none 0 0, .slice none 0 0] 29, true⟩ :: ⟨b1, Ce [.slice a0 x.ms.length c0, .slice a1 x.shs.length c1, .slice a2 x.its.length c2, .slice a3 x.ps.length c3] 24, true⟩ :: (t.2.1.2 ++ (t.2.2.1.2.2 ++ (t.2.2.2 ++ (NI ++ (NM ++ (NX ++ [])))))))
    (I := fun t => (t.1 ≤ min x.ps.length 6 ∧ (Plt.bAt ms its x.ps t.1).1.length ≤ 5 * t.1) ∧ OW 64 2 encSrc (.slice t.2.1.1.1 (Plt.bAt ms its x.ps t.1).1.length t.2.1.1.2) (Plt.bAt ms its x.ps t.1).1 t.2.1.2 ∧ t.2.2.1.2.1.length = t.1 ∧ OW 58 6 encPD (.slice t.2.2.1.1.1 t.2.2.1.2.1.length t.2.2.1.1.2) t.2.2.1.2.1 t.2.2.1.2.2 ∧ (∀ e ∈ t.2.2.2, e.own = true) ∧
      Shw t.2.2.2 (fun w => ∀ (j : Nat) (d : PD) (y : Plt.Pass), t.2.2.1.2.1[j]? = some d → (Plt.bAt ms its x.ps t.1).2[j]? = some y → PassV w d y))
    (μ := fun t => min x.ps.length 6 - t.1) (s0 := (0, ((none, 0), []), ((none, 0), [], []), []))
  · exact ⟨⟨Nat.zero_le _, Nat.zero_le _⟩, OW.nil, rfl, OW.nil, by simp, fun _ _ _ _ _ _ j d y hd _ => by simp at hd⟩
  · exact fS_
  · exact hS_
  rintro ⟨i, ⟨⟨al, cl⟩, NL⟩, ⟨⟨ap, cp⟩, ys, NP⟩, NY⟩ ⟨⟨hi, hlb⟩, hOL, hyl, hOP, oY, hPY⟩
  dsimp only at hi hlb hOL hyl hOP oY hPY ⊢
  have oL := hOL.own
  have oP := hOP.own
  by_cases hlt : i < min x.ps.length 6
  · obtain ⟨y8, hx⟩ : ∃ y, x.ps[i]? = some y := ⟨_, List.getElem?_eq_getElem (by omega)⟩
    obtain ⟨b, off, cx, e, fz, rfl, hk, hp⟩ := hop3 (by omega)
    have g1 : cx[off + i * 1]? = some (.int .u8 (y8.toNat : Int)) := hp.one hx rfl
    have hy8 := y8.toNat_lt
    have hgd : x.ps.getD i 0 = y8 := by simp [List.getD_eq_getElem?_getD, hx]
    have hnext1 : (Plt.bAt ms its x.ps (i + 1)).1 = Plt.bNext ms y8.toNat i (Plt.bAt ms its x.ps i).1 := by rw [Plt.bAt, hgd]
    have hnext2 : (Plt.bAt ms its x.ps (i + 1)).2 = (Plt.bAt ms its x.ps i).2 ++ [Plt.bPass ms its y8.toNat i (Plt.bAt ms its x.ps i).1] := by rw [Plt.bAt, hgd]
    have hpsl := Plt.bAt_len ms its x.ps i
    generalize (Plt.bAt ms its x.ps i).2 = pss at hPY hnext2 hpsl
    generalize (Plt.bAt ms its x.ps i).1 = left at hOL hlb hnext1 hnext2 ⊢
    generalize y8.toNat = n at *
    clear hgd
    obtain ⟨j, hj⟩ : ∃ j, n % ms.length = j := ⟨_, rfl⟩
    have hjl : j < ms.length := by rw [← hj]; exact Nat.mod_lt _ (by omega)
    have hji : (n : Int) % (ms.length : Int) = (j : Int) := by omega
    obtain ⟨m, hm⟩ : ∃ m, ms[j]? = some m := ⟨_, List.getElem?_eq_getElem hjl⟩
    obtain ⟨d, hd⟩ : ∃ d, ds[j]? = some d := ⟨_, List.getElem?_eq_getElem (by omega)⟩
    have hmd : Plt.bMd ms n = m := by unfold Plt.bMd; rw [hj]; simp [List.getD_eq_getElem?_getD, hm]
    have hcm : m.caps.length ≤ 4 ∧ 1 ≤ m.caps.length := by
      have := Plt.bMs_caps (x := x) (m := m) (by rw [hM]; exact List.mem_of_getElem? hm)
      omega
    refine st_know (fun w' hw' => (hMX _ _ _ _ (by exact rL_) hw' j d m hd hm).eqs) ?_
    rintro ⟨x1, k1, x2, k2, rfl⟩
    obtain ⟨bM, sM, rfl, rfl⟩ := OW.some hOM (by omega)
    have q1 : ∀ (j' : Nat) (u : Value), ([.int .i64 m.id, .int .i64 m.sweeps, .int .i64 m.rate, .slice x1 m.caps.length k1, .slice x2 m.shifts.length k2] : List Value)[j']? = some u → (ds.flatMap encMD ++ sM).toArray[0 + j * 5 + j']? = some u := (Pat.flat encMD_len ds sM).get hd
    simp only [List.cons_append, List.nil_append]
    obtain ⟨c, hc⟩ : ∃ c, m.caps.length = c := ⟨_, rfl⟩
    have hbp : Plt.bPass ms its n i left = ⟨20 - i, m.id, (n : Int) / 8 % 16, (Plt.bPick n 0 [] [] (Plt.bLeft i left)).1, Plt.bTab n c 8, Plt.bUn its n i its.length⟩ := by unfold Plt.bPass; rw [hmd, hc]
    have hbn : Plt.bNext ms n i left = (Plt.bPick n 0 [] [] (Plt.bLeft i left)).2 ++ Plt.bSrcs (20 - i) c := by unfold Plt.bNext; rw [hmd, hc]
    rw [hc] at hcm q1
    rw [hbp] at hnext2
    rw [hbn] at hnext1
    generalize m.id = mid at *
    generalize m.sweeps = msw at *
    generalize m.rate = mra at *
    generalize m.shifts.length = msl at *
    clear hbp hbn hmd
    repeat' (first | ((with_reducible apply c_cond_t); exact rfl; exact decide_eq_true (by omega)) | ((with_reducible apply o_pick_t); exact rfl; exact decide_eq_true (by omega); exact rfl; exact rfl) | ((with_reducible apply g_run); exact rfl; exact decide_eq_true (by omega)) | ((with_reducible apply o_conv8); infer_instance; infer_instance; exact rfl; (constructor <;> omega); exact rfl) | ((with_reducible first | apply o_move | apply o_assign | apply o_faddr0 | apply o_conv); exact rfl; exact rfl) | ((with_reducible apply gdo_load); first | refine wo_load (h := ?_) | refine wo_loadAll (h := ?_) | refine wo_loadC (h := ?_) | refine wo_ldV (h := ?_) | refine wo_ldF (h := ?_)) | ((with_reducible first | apply o_lss | apply o_eql | apply o_neq); exact rfl; exact rfl; exact rfl) | ((with_reducible apply o_len); infer_instance; exact rfl; exact rfl) | ((with_reducible apply o_idx); infer_instance; infer_instance; exact rfl; exact rfl; (first | exact rfl | omega); exact rfl; (first | assumption | omega | decide)) | ((with_reducible first | apply c_seq | apply c_block | apply c_region | apply c_nil | apply c_ret | apply c_exit | apply c_skip)) | ((with_reducible first | apply e_then | apply e_then_ret | apply e_then_exit | apply e_in | apply e_in_ret | apply e_in_same)))
    repeat' (first | ((with_reducible apply q_remE (v := (j : Int))); exact rfl; exact rfl; (rw [hdl]; exact hji); omega; exact rfl) | ((with_reducible first | apply o_move | apply o_assign | apply o_faddr0 | apply o_conv); exact rfl; exact rfl) | ((with_reducible apply gdo_load); first | refine wo_load (h := ?_) | refine wo_loadAll (h := ?_) | refine wo_loadC (h := ?_) | refine wo_ldV (h := ?_) | refine wo_ldF (h := ?_)) | ((with_reducible first | apply o_lss | apply o_eql | apply o_neq); exact rfl; exact rfl; exact rfl) | ((with_reducible first | apply o_add | apply o_sub | apply o_mul); exact rfl; exact rfl; exact rfl; (constructor <;> omega)) | ((with_reducible first | apply o_quo | apply o_rem); exact rfl; exact rfl; exact rfl; omega) | ((with_reducible apply o_alloc); exact rfl; intro _) | ((with_reducible apply gdo_store); first | refine wo_store1 (h := ?_) | refine wo_storeA (h := ?_)) | ((with_reducible apply gdo_build); first | refine wo_build (h := ?_)) | ((with_reducible first | apply c_seq | apply c_block | apply c_region | apply c_nil | apply c_ret | apply c_exit | apply c_skip)) | ((with_reducible first | apply e_then | apply e_then_ret | apply e_then_exit | apply e_in | apply e_in_ret | apply e_in_same)) | ((with_reducible apply c_regionD0 (id := 26) []); kernel_rfl; kernel_rfl) | ((with_reducible apply q_nil); try simp only [ents, List.cons_append, List.nil_append]) | ((with_reducible first | apply q_move | apply q_assign | apply q_faddr0); exact rfl; exact rfl) | ((with_reducible apply gdq_load); first | refine wq_load (h := ?_) | refine wq_loadAll (h := ?_) | refine wq_loadC (h := ?_) | refine wq_ldV (h := ?_) | refine wq_ldF (h := ?_)) | ((with_reducible apply gdq_call_len); first | refine wq_len (h := ?_)) | ((with_reducible apply q_idx); infer_instance; infer_instance; exact rfl; exact rfl; (first | exact rfl | omega); exact rfl; (first | assumption | omega | decide)) | ((with_reducible apply gdq_store); first | refine wq_storeAE (h := ?_)) | ((with_reducible apply q_alloc); exact rfl; intro _))
    rename_i b13 b14
    obtain ⟨rel, hrel⟩ : ∃ rel, (n : Int) / 8 % 16 = rel := ⟨_, rfl⟩
    rw [hrel] at hnext2 ⊢
    clear hrel hji hj g1 hx hp
    apply c_post (σ := (Option Addr × Nat) × List Ent) (Ds := fun _ => []) (Fs := fun t => [(10, .slice t.1.1 (Plt.bLeft i left).length t.1.2), (14, ptr b14), (13, ptr b13), (12, .int .i64 n), (11, .int .i64 i), (3, ptr b3), (2, ptr b2), (1, ptr b1)])
      (Ls := fun t => ⟨b14, Ce [.int .i64 (20 - i), .int .i64 mid, .int .i64 rel, .slice none 0 0, .slice none 0 0, .slice none 0 0] 58, true⟩ :: ⟨b13, Ce [.int .i64 mid, .int .i64 msw, .int .i64 mra, .slice x1 c k1, .slice x2 msl k2] 61, true⟩ :: ⟨b3, Ce [.slice (some ⟨bM, 0, none⟩) ds.length cm, .slice ai its.length ci, .slice ap ys.length cp] 29, true⟩ :: ⟨b2, Ce [.slice none 0 0, .slice none 0 0, .slice none 0 0] 29, true⟩ :: ⟨b1, Ce [.slice a0 x.ms.length c0, .slice a1 x.shs.length c1, .slice a2 x.its.length c2, .slice (some ⟨b, off, none⟩) x.ps.length c3] 24, true⟩ :: (t.2 ++ (NP ++ (NY ++ (NI ++ (⟨bM, Ce (ds.flatMap encMD ++ sM) 61, true⟩ :: (NX ++ [])))))))
      (I := fun t => OW 64 2 encSrc (.slice t.1.1 (Plt.bLeft i left).length t.1.2) (Plt.bLeft i left) t.2)
    · as_aux_lemma =>
      unfold Plt.bLeft
      by_cases hi3 : i < 3
      · rw [if_pos hi3]
        repeat' (first | ((with_reducible apply c_cond_t); exact rfl; exact decide_eq_true (by omega)) | (apply o_appH (enc := encSrc) (ys := [(((0 : Int), (i : Int) + 1))]); infer_instance; infer_instance; infer_instance; exact rfl; exact encSrc_len; exact encSrc_one; exact rfl; exact rfl; exact rfl; assumption; exact rL_; (exact fun w hw => SV.lit [(((0 : Int), (i : Int) + 1))] encSrc_len hw (by exact aT_) rfl rfl (by decide)); (first | decide | (constructor <;> (try simp only [List.length_cons, List.length_nil]) <;> omega) | (constructor <;> simp <;> omega)); intro a_ cp_ N_ hO_; have oN_ := hO_.own; (try simp only [List.nil_append, List.append_assoc] at hO_); (try simp only [List.append_eq, List.append_assoc, List.cons_append, List.nil_append])) | ((with_reducible first | apply o_move | apply o_assign | apply o_faddr0 | apply o_conv); exact rfl; exact rfl) | ((with_reducible first | apply o_add | apply o_sub | apply o_mul); exact rfl; exact rfl; exact rfl; (constructor <;> omega)) | ((with_reducible apply gdo_build); first | refine wo_build (h := ?_)) | ((with_reducible apply gdo_buildSlice); refine wo_buildSlice (h := fun _ => ?_)) | ((with_reducible first | apply c_seq | apply c_block | apply c_region | apply c_nil | apply c_ret | apply c_exit | apply c_skip)) | ((with_reducible first | apply e_then | apply e_then_ret | apply e_then_exit | apply e_in | apply e_in_ret | apply e_in_same)))
        refine l_meetD ((a_, cp_), N_) hO_ rfl ?_ ?_
        · exact fS_
        · exact hS_
      · rw [if_neg hi3]
        repeat' (first | ((with_reducible apply c_cond_f); exact rfl; exact decide_eq_false (by omega)) | ((with_reducible first | apply c_seq | apply c_block | apply c_region | apply c_nil | apply c_ret | apply c_exit | apply c_skip)) | ((with_reducible first | apply e_then | apply e_then_ret | apply e_then_exit | apply e_in | apply e_in_ret | apply e_in_same)))
        refine l_meetD ((al, cl), NL) hOL rfl ?_ ?_
        · exact fS_
        · exact hS_
    clear hOL oL
    rintro ⟨⟨al, cl⟩, NL⟩ hOL
    dsimp only at hOL ⊢
    have oL := hOL.own
    have hl2 : (Plt.bLeft i left).length ≤ 31 := by unfold Plt.bLeft; split <;> (try simp only [List.length_append, List.length_singleton]) <;> omega
    have hl3 : (Plt.bPick n 0 [] [] (Plt.bLeft i left)).2.length ≤ (Plt.bLeft i left).length := by
      have := Plt.bPick_len n (Plt.bLeft i left) 0 [] []
      simp at this; omega
    have hl4 : (Plt.bLeft i left).length ≤ 5 * i + 1 := by unfold Plt.bLeft; split <;> (try simp only [List.length_append, List.length_singleton]) <;> omega
    generalize Plt.bLeft i left = left2 at *
    repeat' (first | ((with_reducible first | apply o_move | apply o_assign | apply o_faddr0 | apply o_conv); exact rfl; exact rfl) | ((with_reducible apply o_len); infer_instance; exact rfl; exact rfl) | ((with_reducible first | apply c_seq | apply c_block | apply c_region | apply c_nil | apply c_ret | apply c_exit | apply c_skip)) | ((with_reducible first | apply e_then | apply e_then_ret | apply e_then_exit | apply e_in | apply e_in_ret | apply e_in_same)))
    apply c_loop (σ := Nat × (List (Int × Int) × (Option Addr × Nat) × List Ent) × (List (Int × Int) × (Option Addr × Nat) × List Ent)) (Fs := fun t => [(206, .int .i64 t.1), (205, .int .i64 left2.length), (204, .slice al left2.length cl), (15, .slice t.2.2.2.1.1 t.2.2.1.length t.2.2.2.1.2), (14, ptr b14), (13, ptr b13), (12, .int .i64 n), (11, .int .i64 i), (3, ptr b3), (2, ptr b2), (1, ptr b1)])
      (Ls := fun t => ⟨b14, Ce [.int .i64 (20 - i), .int .i64 mid, .int .i64 rel, .slice t.2.1.2.1.1 t.2.1.1.length t.2.1.2.1.2, .slice none 0 0, .slice none 0 0] 58, true⟩ :: ⟨b13, Ce [.int .i64 mid, .int .i64 msw, .int .i64 mra, .slice x1 c k1, .slice x2 msl k2] 61, true⟩ :: ⟨b3, Ce [.slice (some ⟨bM, 0, none⟩) ds.length cm, .slice ai its.length ci, .slice ap ys.length cp] 29, true⟩ :: ⟨b2, Ce [.slice none 0 0, .slice none 0 0, .slice none 0 0] 29, true⟩ :: ⟨b1, Ce [.slice a0 x.ms.length c0, .slice a1 x.shs.length c1, .slice a2 x.its.length c2, .slice (some ⟨b, off, none⟩) x.ps.length c3] 24, true⟩ :: (NL ++ (t.2.1.2.2 ++ (t.2.2.2.2 ++ (NP ++ (NY ++ (NI ++ (⟨bM, Ce (ds.flatMap encMD ++ sM) 61, true⟩ :: (NX ++ [])))))))))
      (I := fun t => (t.1 ≤ left2.length ∧ t.2.1.1.length + t.2.2.1.length = t.1) ∧ Plt.bPick n 0 [] [] left2 = Plt.bPick n t.1 t.2.1.1 t.2.2.1 (left2.drop t.1) ∧ OW 64 2 encSrc (.slice t.2.1.2.1.1 t.2.1.1.length t.2.1.2.1.2) t.2.1.1 t.2.1.2.2 ∧ OW 64 2 encSrc (.slice t.2.2.2.1.1 t.2.2.1.length t.2.2.2.1.2) t.2.2.1 t.2.2.2.2)
      (μ := fun t => left2.length - t.1) (s0 := (0, ([], (none, 0), []), ([], (none, 0), [])))
    · exact ⟨⟨Nat.zero_le _, rfl⟩, rfl, OW.nil, OW.nil⟩
    · exact fS_
    · exact hS_
    rintro ⟨k, ⟨fr, ⟨af, cf⟩, NF⟩, ⟨re, ⟨ar, cr⟩, NR⟩⟩ ⟨⟨hk, hfl⟩, hbp, hOF, hOR⟩
    dsimp only at hk hfl hbp hOF hOR ⊢
    have oF := hOF.own
    have oR := hOR.own
    by_cases hlt2 : k < left2.length
    · obtain ⟨⟨s1, s2⟩, hx⟩ : ∃ y, left2[k]? = some y := ⟨_, List.getElem?_eq_getElem hlt2⟩
      obtain ⟨bL, sL, rfl, rfl⟩ := OW.some hOL (by omega)
      have q2 : ∀ (j' : Nat) (u : Value), ([.int .i64 s1, .int .i64 s2] : List Value)[j']? = some u → (left2.flatMap encSrc ++ sL).toArray[0 + k * 2 + j']? = some u := (Pat.flat encSrc_len left2 sL).get hx
      rw [Plt.bPick_some hx] at hbp
      obtain ⟨sh, hsh⟩ : ∃ sh, (n : Int) / 2 ^ (k % 5) = sh := ⟨_, rfl⟩
      have hsh0 : 0 ≤ sh ∧ sh ≤ 255 := by
        rw [← hsh]
        exact ⟨Int.ediv_nonneg (by omega) (Int.le_of_lt (Int.pow_pos (by decide))), Int.le_trans (Int.ediv_le_self _ (by omega)) (by omega)⟩
      rw [hsh] at hbp
      have hsh2 : (n : Int) / 2 ^ ((k % 5 : Nat) : Int).toNat = sh := by rw [Int.toNat_natCast]; exact hsh
      simp only [List.cons_append, List.nil_append]
      by_cases hcc : (sh % 2 = 1 ∨ k = 0) ∧ fr.length < 5
      · rw [if_pos hcc] at hbp
        as_aux_lemma =>
          repeat' (first | ((with_reducible apply c_cond_t); exact rfl; exact decide_eq_true (by omega)) | ((with_reducible apply o_pick_t); exact rfl; exact decide_eq_true (by omega); exact rfl; exact rfl) | ((with_reducible apply o_pick_f); exact rfl; exact decide_eq_false (by omega); exact rfl; exact rfl) | ((with_reducible apply g_run); exact rfl; exact decide_eq_true (by omega)) | ((with_reducible apply g_run); exact rfl; exact decide_eq_false (by omega)) | ((with_reducible apply g_skip); exact rfl; exact decide_eq_true (by omega); exact rfl) | ((with_reducible apply o_remE (v := ((k % 5 : Nat) : Int))); exact rfl; exact rfl; omega; omega; exact rfl) | ((with_reducible apply o_shrE (v := sh)); exact rfl; exact rfl; exact hsh2; omega; exact rfl) | ((with_reducible apply o_andE (v := sh % 2)); exact rfl; exact rfl; exact rfl; omega; exact rfl) | (apply o_appH (enc := encSrc) (ys := [((s1, s2))]); infer_instance; infer_instance; infer_instance; exact rfl; exact encSrc_len; exact encSrc_one; exact rfl; exact rfl; exact rfl; assumption; exact rL_; (exact fun w hw => SV.lit [((s1, s2))] encSrc_len hw (by exact aT_) rfl rfl (by decide)); (first | decide | (constructor <;> (try simp only [List.length_cons, List.length_nil]) <;> omega) | (constructor <;> simp <;> omega)); intro a_ cp_ N_ hO_; have oN_ := hO_.own; (try simp only [List.nil_append, List.append_assoc] at hO_); (try simp only [List.append_eq, List.append_assoc, List.cons_append, List.nil_append])) | ((with_reducible first | apply o_move | apply o_assign | apply o_faddr0 | apply o_conv); exact rfl; exact rfl) | ((with_reducible apply gdo_load); first | refine wo_load (h := ?_) | refine wo_loadAll (h := ?_) | refine wo_loadC (h := ?_) | refine wo_ldV (h := ?_) | refine wo_ldF (h := ?_)) | ((with_reducible first | apply o_lss | apply o_eql | apply o_neq); exact rfl; exact rfl; exact rfl) | ((with_reducible first | apply o_add | apply o_sub | apply o_mul); exact rfl; exact rfl; exact rfl; (constructor <;> omega)) | ((with_reducible apply o_pick_t); exact rfl; exact tT_; exact rfl; exact rfl) | ((with_reducible apply o_alloc); exact rfl; intro _) | ((with_reducible apply gdo_store); first | refine wo_store1 (h := ?_) | refine wo_storeA (h := ?_)) | ((with_reducible apply o_len); infer_instance; exact rfl; exact rfl) | ((with_reducible apply gdo_buildSlice); refine wo_buildSlice (h := fun _ => ?_)) | ((with_reducible apply o_idx); infer_instance; infer_instance; exact rfl; exact rfl; (first | exact rfl | omega); exact rfl; (first | assumption | omega | decide)) | ((with_reducible first | apply g_run); exact rfl; exact gG_) | ((with_reducible first | apply c_seq | apply c_block | apply c_region | apply c_nil | apply c_ret | apply c_exit | apply c_skip)) | ((with_reducible first | apply e_then | apply e_then_ret | apply e_then_exit | apply e_in | apply e_in_ret | apply e_in_same)) | ((with_reducible apply g_split_d); exact rfl; intro hcond; rotate_left; intro hcond; rotate_left))
          all_goals try (exfalso; omega)
          all_goals
            refine l_again (k + 1, (fr ++ [(s1, s2)], (a_, cp_), N_), (re, (ar, cr), NR)) ⟨⟨by dsimp only; omega, show (fr ++ [(s1, s2)]).length + re.length = k + 1 from by rw [List.length_append, List.length_singleton]; omega⟩, hbp, hO_, hOR⟩ (by dsimp only; omega) ?_ ?_
            · exact fS_
            · (try simp only [List.cons_append, List.nil_append]); exact hS_
      · rw [if_neg hcc] at hbp
        as_aux_lemma =>
          repeat' (first | ((with_reducible apply c_cond_t); exact rfl; exact decide_eq_true (by omega)) | ((with_reducible apply c_cond_f); exact rfl; exact decide_eq_false (by omega)) | ((with_reducible apply o_pick_t); exact rfl; exact decide_eq_true (by omega); exact rfl; exact rfl) | ((with_reducible apply o_pick_f); exact rfl; exact decide_eq_false (by omega); exact rfl; exact rfl) | ((with_reducible apply g_skip); exact rfl; exact decide_eq_false (by omega); exact rfl) | ((with_reducible apply g_run); exact rfl; exact decide_eq_false (by omega)) | ((with_reducible apply g_skip); exact rfl; exact decide_eq_true (by omega); exact rfl) | ((with_reducible apply o_remE (v := ((k % 5 : Nat) : Int))); exact rfl; exact rfl; omega; omega; exact rfl) | ((with_reducible apply o_shrE (v := sh)); exact rfl; exact rfl; exact hsh2; omega; exact rfl) | ((with_reducible apply o_andE (v := sh % 2)); exact rfl; exact rfl; exact rfl; omega; exact rfl) | (apply o_appH (enc := encSrc) (ys := [((s1, s2))]); infer_instance; infer_instance; infer_instance; exact rfl; exact encSrc_len; exact encSrc_one; exact rfl; exact rfl; exact rfl; assumption; exact rL_; (exact fun w hw => SV.lit [((s1, s2))] encSrc_len hw (by exact aT_) rfl rfl (by decide)); (first | decide | (constructor <;> (try simp only [List.length_cons, List.length_nil]) <;> omega) | (constructor <;> simp <;> omega)); intro a_ cp_ N_ hO_; have oN_ := hO_.own; (try simp only [List.nil_append, List.append_assoc] at hO_); (try simp only [List.append_eq, List.append_assoc, List.cons_append, List.nil_append])) | ((with_reducible first | apply o_move | apply o_assign | apply o_faddr0 | apply o_conv); exact rfl; exact rfl) | ((with_reducible apply gdo_load); first | refine wo_load (h := ?_) | refine wo_loadAll (h := ?_) | refine wo_loadC (h := ?_) | refine wo_ldV (h := ?_) | refine wo_ldF (h := ?_)) | ((with_reducible first | apply o_lss | apply o_eql | apply o_neq); exact rfl; exact rfl; exact rfl) | ((with_reducible first | apply o_add | apply o_sub | apply o_mul); exact rfl; exact rfl; exact rfl; (constructor <;> omega)) | ((with_reducible apply o_pick_t); exact rfl; exact tT_; exact rfl; exact rfl) | ((with_reducible apply o_alloc); exact rfl; intro _) | ((with_reducible apply gdo_store); first | refine wo_store1 (h := ?_) | refine wo_storeA (h := ?_)) | ((with_reducible apply o_len); infer_instance; exact rfl; exact rfl) | ((with_reducible apply gdo_buildSlice); refine wo_buildSlice (h := fun _ => ?_)) | ((with_reducible apply o_idx); infer_instance; infer_instance; exact rfl; exact rfl; (first | exact rfl | omega); exact rfl; (first | assumption | omega | decide)) | ((with_reducible first | apply g_run); exact rfl; exact gG_) | ((with_reducible first | apply c_seq | apply c_block | apply c_region | apply c_nil | apply c_ret | apply c_exit | apply c_skip)) | ((with_reducible apply c_cond_f); exact rfl; exact fF_) | ((with_reducible first | apply e_then | apply e_then_ret | apply e_then_exit | apply e_in | apply e_in_ret | apply e_in_same)) | ((with_reducible apply g_split_d); exact rfl; intro hcond; rotate_left; intro hcond; rotate_left))
          all_goals try (exfalso; omega)
          all_goals
            refine l_again (k + 1, (fr, (af, cf), NF), (re ++ [(s1, s2)], (a_, cp_), N_)) ⟨⟨by dsimp only; omega, show fr.length + (re ++ [(s1, s2)]).length = k + 1 from by rw [List.length_append, List.length_singleton]; omega⟩, hbp, hOF, hO_⟩ (by dsimp only; omega) ?_ ?_
            · exact fS_
            · (try simp only [List.cons_append, List.nil_append]); exact hS_
    obtain rfl : k = left2.length := by omega
    rw [List.drop_length, Plt.bPick] at hbp
    rw [hbp] at hnext1 hnext2 hl3
    dsimp only at hnext1 hnext2 hl3
    clear hbp hOL
    have hrl : re.length ≤ 5 * i + 1 := by omega
    repeat' (first | ((with_reducible apply c_cond_f); exact rfl; exact decide_eq_false (by omega)) | ((with_reducible first | apply o_move | apply o_assign | apply o_faddr0 | apply o_conv); exact rfl; exact rfl) | ((with_reducible first | apply o_lss | apply o_eql | apply o_neq); exact rfl; exact rfl; exact rfl) | ((with_reducible first | apply c_seq | apply c_block | apply c_region | apply c_nil | apply c_ret | apply c_exit | apply c_skip)) | ((with_reducible first | apply e_then | apply e_then_ret | apply e_then_exit | apply e_in | apply e_in_ret | apply e_in_same)))
    apply c_loop (σ := Nat × (Option Addr × Nat) × List Ent) (Fs := fun t => [(18, .int .i64 t.1), (10, .slice ar re.length cr), (14, ptr b14), (13, ptr b13), (12, .int .i64 n), (11, .int .i64 i), (3, ptr b3), (2, ptr b2), (1, ptr b1)])
      (Ls := fun t => ⟨b14, Ce [.int .i64 (20 - i), .int .i64 mid, .int .i64 rel, .slice af fr.length cf, .slice t.2.1.1 (Plt.bTab n c t.1).length t.2.1.2, .slice none 0 0] 58, true⟩ :: ⟨b13, Ce [.int .i64 mid, .int .i64 msw, .int .i64 mra, .slice x1 c k1, .slice x2 msl k2] 61, true⟩ :: ⟨b3, Ce [.slice (some ⟨bM, 0, none⟩) ds.length cm, .slice ai its.length ci, .slice ap ys.length cp] 29, true⟩ :: ⟨b2, Ce [.slice none 0 0, .slice none 0 0, .slice none 0 0] 29, true⟩ :: ⟨b1, Ce [.slice a0 x.ms.length c0, .slice a1 x.shs.length c1, .slice a2 x.its.length c2, .slice (some ⟨b, off, none⟩) x.ps.length c3] 24, true⟩ :: (t.2.2 ++ (NF ++ (NR ++ (NP ++ (NY ++ (NI ++ (⟨bM, Ce (ds.flatMap encMD ++ sM) 61, true⟩ :: (NX ++ [])))))))))
      (I := fun t => (t.1 ≤ 8 ∧ (Plt.bTab n c t.1).length ≤ t.1) ∧ OW 76 2 encRow (.slice t.2.1.1 (Plt.bTab n c t.1).length t.2.1.2) (Plt.bTab n c t.1) t.2.2) (μ := fun t => 8 - t.1) (s0 := (0, (none, 0), []))
    · exact ⟨⟨Nat.zero_le _, Nat.le_refl _⟩, OW.nil⟩
    · exact fS_
    · exact hS_
    rintro ⟨k, ⟨at_, ct⟩, NT⟩ ⟨⟨hk, htl⟩, hOT⟩
    dsimp only at hk htl hOT ⊢
    have oT := hOT.own
    by_cases hlt2 : k < 8
    · have e1 := Plt.bTab_succ n c k
      by_cases hkn : k ≠ n % 16
      · rw [if_pos hkn] at e1
        have hrem : ((n : Int) + (k : Int)) % (c : Int) = (((n + k) % c : Nat) : Int) := by rw [Int.natCast_emod, Int.natCast_add]
        have htl2 : (Plt.bTab n c (k + 1)).length ≤ k + 1 := by rw [e1, List.length_append, List.length_singleton]; omega
        generalize (n + k) % c = z at *
        as_aux_lemma =>
          repeat' (first | ((with_reducible apply c_cond_t); exact rfl; exact decide_eq_true (by omega)) | ((with_reducible apply q_remE (v := (z : Int))); exact rfl; exact rfl; exact hrem; omega; exact rfl) | (apply o_appH (enc := encRow) (ys := [(⟨k, (z : Int)⟩ : Plt.Row)]); infer_instance; infer_instance; infer_instance; exact rfl; exact encRow_len; exact encRow_one; exact rfl; exact rfl; exact rfl; assumption; exact rL_; (exact fun w hw => SV.lit [(⟨k, (z : Int)⟩ : Plt.Row)] encRow_len hw (by exact aT_) rfl rfl (by decide)); (first | decide | (constructor <;> (try simp only [List.length_cons, List.length_nil]) <;> omega) | (constructor <;> simp <;> omega)); intro a_ cp_ N_ hO_; have oN_ := hO_.own; (try simp only [List.nil_append, List.append_assoc] at hO_); (try simp only [List.append_eq, List.append_assoc, List.cons_append, List.nil_append])) | ((with_reducible first | apply o_move | apply o_assign | apply o_faddr0 | apply o_conv); exact rfl; exact rfl) | ((with_reducible first | apply o_lss | apply o_eql | apply o_neq); exact rfl; exact rfl; exact rfl) | ((with_reducible first | apply o_add | apply o_sub | apply o_mul); exact rfl; exact rfl; exact rfl; (constructor <;> omega)) | ((with_reducible first | apply o_quo | apply o_rem); exact rfl; exact rfl; exact rfl; omega) | ((with_reducible apply gdo_store); first | refine wo_store1 (h := ?_) | refine wo_storeA (h := ?_)) | ((with_reducible first | apply c_seq | apply c_block | apply c_region | apply c_nil | apply c_ret | apply c_exit | apply c_skip)) | ((with_reducible first | apply e_then | apply e_then_ret | apply e_then_exit | apply e_in | apply e_in_ret | apply e_in_same)) | ((with_reducible apply c_regionD (id := 43) [] 12); kernel_rfl; kernel_rfl; simp only [List.take_succ_cons, List.take_zero, List.drop_succ_cons, List.drop_zero]) | ((with_reducible apply q_nil); try simp only [ents, List.cons_append, List.nil_append]) | ((with_reducible first | apply q_move | apply q_assign | apply q_faddr0); exact rfl; exact rfl) | ((with_reducible apply gdq_load); first | refine wq_load (h := ?_) | refine wq_loadAll (h := ?_) | refine wq_loadC (h := ?_) | refine wq_ldV (h := ?_) | refine wq_ldF (h := ?_)) | ((with_reducible first | apply q_add | apply q_sub | apply q_mul); exact rfl; exact rfl; exact rfl; (constructor <;> omega)) | ((with_reducible apply gdq_build); first | refine wq_build (h := ?_)) | ((with_reducible apply gdq_call_len); first | refine wq_len (h := ?_)) | ((with_reducible apply gdq_buildSlice); refine wq_buildSlice (h := fun _ => ?_)))
          rw [← e1] at hO_ ⊢
          refine l_again (k + 1, (a_, cp_), N_) ⟨⟨by dsimp only; omega, htl2⟩, hO_⟩ (by dsimp only; omega) ?_ ?_
          · exact fS_
          · exact hS_
      · rw [if_neg hkn, List.append_nil] at e1
        as_aux_lemma =>
          repeat' (first | ((with_reducible apply c_cond_t); exact rfl; exact decide_eq_true (by omega)) | ((with_reducible apply c_cond_f); exact rfl; exact decide_eq_false (by omega)) | ((with_reducible first | apply o_move | apply o_assign | apply o_faddr0 | apply o_conv); exact rfl; exact rfl) | ((with_reducible first | apply o_lss | apply o_eql | apply o_neq); exact rfl; exact rfl; exact rfl) | ((with_reducible first | apply o_add | apply o_sub | apply o_mul); exact rfl; exact rfl; exact rfl; (constructor <;> omega)) | ((with_reducible first | apply o_quo | apply o_rem); exact rfl; exact rfl; exact rfl; omega) | ((with_reducible first | apply c_seq | apply c_block | apply c_region | apply c_nil | apply c_ret | apply c_exit | apply c_skip)) | ((with_reducible first | apply e_then | apply e_then_ret | apply e_then_exit | apply e_in | apply e_in_ret | apply e_in_same)))
          refine l_again (k + 1, (at_, ct), NT) ⟨⟨by dsimp only; omega, by dsimp only; rw [e1]; omega⟩, by dsimp only; rw [e1]; exact hOT⟩ (by dsimp only; omega) ?_ ?_
          · exact fS_
          · (try dsimp only); rw [e1]; exact hS_
    obtain rfl : k = 8 := by omega
    repeat' (first | ((with_reducible apply c_cond_f); exact rfl; exact decide_eq_false (by omega)) | ((with_reducible first | apply o_move | apply o_assign | apply o_faddr0 | apply o_conv); exact rfl; exact rfl) | ((with_reducible apply gdo_load); first | refine wo_load (h := ?_) | refine wo_loadAll (h := ?_) | refine wo_loadC (h := ?_) | refine wo_ldV (h := ?_) | refine wo_ldF (h := ?_)) | ((with_reducible first | apply o_lss | apply o_eql | apply o_neq); exact rfl; exact rfl; exact rfl) | ((with_reducible apply o_len); infer_instance; exact rfl; exact rfl) | ((with_reducible first | apply c_seq | apply c_block | apply c_region | apply c_nil | apply c_ret | apply c_exit | apply c_skip)) | ((with_reducible first | apply e_then | apply e_then_ret | apply e_then_exit | apply e_in | apply e_in_ret | apply e_in_same)))
    apply c_loop (σ := Nat × (Option Addr × Nat) × List Ent) (Fs := fun t => [(264, .int .i64 t.1), (263, .int .i64 its.length), (10, .slice ar re.length cr), (14, ptr b14), (13, ptr b13), (12, .int .i64 n), (11, .int .i64 i), (3, ptr b3), (2, ptr b2), (1, ptr b1)])
      (Ls := fun t => ⟨b14, Ce [.int .i64 (20 - i), .int .i64 mid, .int .i64 rel, .slice af fr.length cf, .slice at_ (Plt.bTab n c 8).length ct, .slice t.2.1.1 (Plt.bUn its n i t.1).length t.2.1.2] 58, true⟩ :: ⟨b13, Ce [.int .i64 mid, .int .i64 msw, .int .i64 mra, .slice x1 c k1, .slice x2 msl k2] 61, true⟩ :: ⟨b3, Ce [.slice (some ⟨bM, 0, none⟩) ds.length cm, .slice ai its.length ci, .slice ap ys.length cp] 29, true⟩ :: ⟨b2, Ce [.slice none 0 0, .slice none 0 0, .slice none 0 0] 29, true⟩ :: ⟨b1, Ce [.slice a0 x.ms.length c0, .slice a1 x.shs.length c1, .slice a2 x.its.length c2, .slice (some ⟨b, off, none⟩) x.ps.length c3] 24, true⟩ :: (t.2.2 ++ (NT ++ (NF ++ (NR ++ (NP ++ (NY ++ (NI ++ (⟨bM, Ce (ds.flatMap encMD ++ sM) 61, true⟩ :: (NX ++ []))))))))))
      (I := fun t => (t.1 ≤ its.length ∧ (Plt.bUn its n i t.1).length ≤ t.1) ∧ OW 3 1 encI (.slice t.2.1.1 (Plt.bUn its n i t.1).length t.2.1.2) (Plt.bUn its n i t.1) t.2.2) (μ := fun t => its.length - t.1) (s0 := (0, (none, 0), []))
    · exact ⟨⟨Nat.zero_le _, Nat.le_refl _⟩, OW.nil⟩
    · exact fS_
    · exact hS_
    rintro ⟨k, ⟨au, cu⟩, NU⟩ ⟨⟨hk2, hul⟩, hOU⟩
    dsimp only at hk2 hul hOU ⊢
    have oU := hOU.own
    by_cases hlt3 : k < its.length
    · have e1 := Plt.bUn_succ its n i k
      have hkn : k * n ≤ 40 * 255 := Nat.mul_le_mul (by omega) (by omega)
      have hkn2 : (k : Int) * (n : Int) = ((k * n : Nat) : Int) := by rw [Int.natCast_mul]
      generalize k * n = kn at *
      by_cases hc10 : (kn + i) % 11 = 10
      · rw [if_pos hc10] at e1
        obtain ⟨⟨xi, xs, xb⟩, hx⟩ : ∃ y, its[k]? = some y := ⟨_, List.getElem?_eq_getElem hlt3⟩
        rw [show (its.getD k ⟨0, 0, 0⟩).id = xi from by simp [List.getD_eq_getElem?_getD, hx]] at e1
        have hul2 : (Plt.bUn its n i (k + 1)).length ≤ k + 1 := by rw [e1, List.length_append, List.length_singleton]; omega
        obtain ⟨bI, sI, rfl, rfl⟩ := OW.some hOI (by omega)
        have q2 : ∀ (j' : Nat) (u : Value), ([.int .i64 xi, .int .i64 xs, .int .i64 xb] : List Value)[j']? = some u → (its.flatMap encItem ++ sI).toArray[0 + k * 3 + j']? = some u := (Pat.flat encItem_len its sI).get hx
        simp only [List.cons_append, List.nil_append]
        as_aux_lemma =>
          repeat' (first | ((with_reducible apply c_cond_t); exact rfl; exact decide_eq_true (by omega)) | ((with_reducible apply o_mulE (v := (kn : Int))); exact rfl; exact rfl; exact hkn2; omega; exact rfl) | (apply o_appH (enc := encI) (ys := [(xi)]); infer_instance; infer_instance; infer_instance; exact rfl; exact encI_len; exact encI_one; exact rfl; exact rfl; exact rfl; assumption; exact rL_; (exact fun w hw => SV.lit [(xi)] encI_len hw (by exact aT_) rfl rfl (by decide)); (first | decide | (constructor <;> (try simp only [List.length_cons, List.length_nil]) <;> omega) | (constructor <;> simp <;> omega)); intro a_ cp_ N_ hO_; have oN_ := hO_.own; (try simp only [List.nil_append, List.append_assoc] at hO_); (try simp only [List.append_eq, List.append_assoc, List.cons_append, List.nil_append])) | ((with_reducible first | apply o_move | apply o_assign | apply o_faddr0 | apply o_conv); exact rfl; exact rfl) | ((with_reducible first | apply o_lss | apply o_eql | apply o_neq); exact rfl; exact rfl; exact rfl) | ((with_reducible first | apply o_add | apply o_sub | apply o_mul); exact rfl; exact rfl; exact rfl; (constructor <;> omega)) | ((with_reducible first | apply o_quo | apply o_rem); exact rfl; exact rfl; exact rfl; omega) | ((with_reducible apply gdo_store); first | refine wo_store1 (h := ?_) | refine wo_storeA (h := ?_)) | ((with_reducible first | apply c_seq | apply c_block | apply c_region | apply c_nil | apply c_ret | apply c_exit | apply c_skip)) | ((with_reducible first | apply e_then | apply e_then_ret | apply e_then_exit | apply e_in | apply e_in_ret | apply e_in_same)) | ((with_reducible apply c_regionD (id := 48) [] 9); kernel_rfl; kernel_rfl; simp only [List.take_succ_cons, List.take_zero, List.drop_succ_cons, List.drop_zero]) | ((with_reducible apply q_nil); try simp only [ents, List.cons_append, List.nil_append]) | ((with_reducible first | apply q_move | apply q_assign | apply q_faddr0); exact rfl; exact rfl) | ((with_reducible apply q_faddr); exact rfl; exact rfl) | ((with_reducible apply gdq_load); first | refine wq_load (h := ?_) | refine wq_loadAll (h := ?_) | refine wq_loadC (h := ?_) | refine wq_ldV (h := ?_) | refine wq_ldF (h := ?_)) | ((with_reducible apply q_idx); infer_instance; infer_instance; exact rfl; exact rfl; (first | exact rfl | omega); exact rfl; (first | assumption | omega | decide)) | ((with_reducible apply gdq_buildSlice); refine wq_buildSlice (h := fun _ => ?_)))
          rw [← e1] at hO_ ⊢
          refine l_again (k + 1, (a_, cp_), N_) ⟨⟨by dsimp only; omega, hul2⟩, hO_⟩ (by dsimp only; omega) ?_ ?_
          · exact fS_
          · (try simp only [List.cons_append, List.nil_append]); exact hS_
      · rw [if_neg hc10, List.append_nil] at e1
        as_aux_lemma =>
          repeat' (first | ((with_reducible apply c_cond_t); exact rfl; exact decide_eq_true (by omega)) | ((with_reducible apply c_cond_f); exact rfl; exact decide_eq_false (by omega)) | ((with_reducible apply o_mulE (v := (kn : Int))); exact rfl; exact rfl; exact hkn2; omega; exact rfl) | ((with_reducible first | apply o_move | apply o_assign | apply o_faddr0 | apply o_conv); exact rfl; exact rfl) | ((with_reducible first | apply o_lss | apply o_eql | apply o_neq); exact rfl; exact rfl; exact rfl) | ((with_reducible first | apply o_add | apply o_sub | apply o_mul); exact rfl; exact rfl; exact rfl; (constructor <;> omega)) | ((with_reducible first | apply o_quo | apply o_rem); exact rfl; exact rfl; exact rfl; omega) | ((with_reducible first | apply c_seq | apply c_block | apply c_region | apply c_nil | apply c_ret | apply c_exit | apply c_skip)) | ((with_reducible first | apply e_then | apply e_then_ret | apply e_then_exit | apply e_in | apply e_in_ret | apply e_in_same)))
          refine l_again (k + 1, (au, cu), NU) ⟨⟨by dsimp only; omega, by dsimp only; rw [e1]; omega⟩, by dsimp only; rw [e1]; exact hOU⟩ (by dsimp only; omega) ?_ ?_
          · exact fS_
          · (try dsimp only); rw [e1]; exact hS_
    obtain rfl : k = its.length := by omega
    repeat' (first | ((with_reducible apply c_cond_f); exact rfl; exact decide_eq_false (by omega)) | ((with_reducible first | apply o_move | apply o_assign | apply o_faddr0 | apply o_conv); exact rfl; exact rfl) | ((with_reducible apply gdo_load); first | refine wo_load (h := ?_) | refine wo_loadAll (h := ?_) | refine wo_loadC (h := ?_) | refine wo_ldV (h := ?_) | refine wo_ldF (h := ?_)) | ((with_reducible first | apply o_lss | apply o_eql | apply o_neq); exact rfl; exact rfl; exact rfl) | ((with_reducible apply o_len); infer_instance; exact rfl; exact rfl) | ((with_reducible first | apply c_seq | apply c_block | apply c_region | apply c_nil | apply c_ret | apply c_exit | apply c_skip)) | ((with_reducible first | apply e_then | apply e_then_ret | apply e_then_exit | apply e_in | apply e_in_ret | apply e_in_same)))
    apply c_loop (σ := Nat × (Option Addr × Nat) × List Ent) (Fs := fun t => [(289, .int .i64 t.1), (288, .int .i64 c), (10, .slice t.2.1.1 (re ++ Plt.bSrcs (20 - i) t.1).length t.2.1.2), (14, ptr b14), (13, ptr b13), (12, .int .i64 n), (11, .int .i64 i), (3, ptr b3), (2, ptr b2), (1, ptr b1)])
      (Ls := fun t => ⟨b14, Ce [.int .i64 (20 - i), .int .i64 mid, .int .i64 rel, .slice af fr.length cf, .slice at_ (Plt.bTab n c 8).length ct, .slice au (Plt.bUn its n i its.length).length cu] 58, true⟩ :: ⟨b13, Ce [.int .i64 mid, .int .i64 msw, .int .i64 mra, .slice x1 c k1, .slice x2 msl k2] 61, true⟩ :: ⟨b3, Ce [.slice (some ⟨bM, 0, none⟩) ds.length cm, .slice ai its.length ci, .slice ap ys.length cp] 29, true⟩ :: ⟨b2, Ce [.slice none 0 0, .slice none 0 0, .slice none 0 0] 29, true⟩ :: ⟨b1, Ce [.slice a0 x.ms.length c0, .slice a1 x.shs.length c1, .slice a2 x.its.length c2, .slice (some ⟨b, off, none⟩) x.ps.length c3] 24, true⟩ :: (t.2.2 ++ (NU ++ (NT ++ (NF ++ (NP ++ (NY ++ (NI ++ (⟨bM, Ce (ds.flatMap encMD ++ sM) 61, true⟩ :: (NX ++ []))))))))))
      (I := fun t => (t.1 ≤ c ∧ (re ++ Plt.bSrcs (20 - i) t.1).length = re.length + t.1) ∧ OW 64 2 encSrc (.slice t.2.1.1 (re ++ Plt.bSrcs (20 - i) t.1).length t.2.1.2) (re ++ Plt.bSrcs (20 - i) t.1) t.2.2) (μ := fun t => c - t.1) (s0 := (0, (ar, cr), NR))
    · exact ⟨⟨Nat.zero_le _, by simp [Plt.bSrcs]⟩, by dsimp only; rw [show Plt.bSrcs (20 - i) 0 = [] from rfl, List.append_nil]; exact hOR⟩
    · (try dsimp only); rw [show Plt.bSrcs (20 - i) 0 = [] from rfl, List.append_nil]; exact fS_
    · exact hS_
    rintro ⟨k, ⟨ar2, cr2⟩, NR2⟩ ⟨⟨hk3, hrl3⟩, hOR2⟩
    dsimp only at hk3 hrl3 hOR2 ⊢
    have oR2 := hOR2.own
    by_cases hlt4 : k < c
    · have e1 : re ++ Plt.bSrcs (20 - i) (k + 1) = (re ++ Plt.bSrcs (20 - i) k) ++ [((20 - i : Int), (k : Int))] := by rw [Plt.bSrcs_succ, List.append_assoc]
      have hrl4 : (re ++ Plt.bSrcs (20 - i) (k + 1)).length = re.length + (k + 1) := by rw [e1, List.length_append, List.length_singleton]; omega
      generalize re ++ Plt.bSrcs (20 - i) k = RB at *
      as_aux_lemma =>
        repeat' (first | ((with_reducible apply c_cond_t); exact rfl; exact decide_eq_true (by omega)) | (apply o_appH (enc := encSrc) (ys := [(((20 - i : Int), (k : Int)))]); infer_instance; infer_instance; infer_instance; exact rfl; exact encSrc_len; exact encSrc_one; exact rfl; exact rfl; exact rfl; assumption; exact rL_; (exact fun w hw => SV.lit [(((20 - i : Int), (k : Int)))] encSrc_len hw (by exact aT_) rfl rfl (by decide)); (first | decide | (constructor <;> (try simp only [List.length_cons, List.length_nil]) <;> omega) | (constructor <;> simp <;> omega)); intro a_ cp_ N_ hO_; have oN_ := hO_.own; (try simp only [List.nil_append, List.append_assoc] at hO_); (try simp only [List.append_eq, List.append_assoc, List.cons_append, List.nil_append])) | ((with_reducible first | apply o_move | apply o_assign | apply o_faddr0 | apply o_conv); exact rfl; exact rfl) | ((with_reducible apply gdo_load); first | refine wo_load (h := ?_) | refine wo_loadAll (h := ?_) | refine wo_loadC (h := ?_) | refine wo_ldV (h := ?_) | refine wo_ldF (h := ?_)) | ((with_reducible first | apply o_lss | apply o_eql | apply o_neq); exact rfl; exact rfl; exact rfl) | ((with_reducible first | apply o_add | apply o_sub | apply o_mul); exact rfl; exact rfl; exact rfl; (constructor <;> omega)) | ((with_reducible apply gdo_build); first | refine wo_build (h := ?_)) | ((with_reducible apply gdo_buildSlice); refine wo_buildSlice (h := fun _ => ?_)) | ((with_reducible first | apply c_seq | apply c_block | apply c_region | apply c_nil | apply c_ret | apply c_exit | apply c_skip)) | ((with_reducible first | apply e_then | apply e_then_ret | apply e_then_exit | apply e_in | apply e_in_ret | apply e_in_same)))
        rw [← e1] at hO_ ⊢
        refine l_again (k + 1, (a_, cp_), N_) ⟨⟨by dsimp only; omega, hrl4⟩, hO_⟩ (by dsimp only; omega) ?_ ?_
        · exact fS_
        · exact hS_
    obtain rfl : k = c := by omega
    have hny : Shw (NF ++ (NT ++ (NU ++ NY))) (fun w => ∀ (j : Nat) (d : PD) (y : Plt.Pass), (ys ++ [(⟨20 - i, mid, rel, (af, fr.length, cf), (at_, (Plt.bTab n k 8).length, ct), (au, (Plt.bUn its n i its.length).length, cu)⟩ : PD)])[j]? = some d → (Plt.bAt ms its x.ps (i + 1)).2[j]? = some y → PassV w d y) := by
      rw [hnext2]
      intro w0 w1 L L0 hr hw j d y hd hy
      by_cases hj : j < ys.length
      · rw [List.getElem?_append_left hj] at hd
        rw [List.getElem?_append_left (by omega)] at hy
        exact (Shw.right (Shw.right (Shw.right hPY))) w0 w1 L L0 hr hw j d y hd hy
      · have : j = ys.length := by
          have h := (List.getElem?_eq_some_iff.1 hd).1
          rw [List.length_append, List.length_singleton] at h
          omega
        subst this
        rw [List.getElem?_append_right (Nat.le_refl _), Nat.sub_self] at hd
        rw [List.getElem?_append_right (by omega), hyl, hpsl, Nat.sub_self] at hy
        cases hd; cases hy
        exact ⟨rfl, rfl, rfl, (Shw.left (Shw.ow encSrc_len hOF)) w0 w1 L L0 hr hw, (Shw.right (Shw.left (Shw.ow encRow_len hOT))) w0 w1 L L0 hr hw, (Shw.right (Shw.right (Shw.left (Shw.ow encI_len hOU)))) w0 w1 L L0 hr hw⟩
    rw [← hnext1] at hOR2 hrl3 ⊢
    have hnl : (Plt.bAt ms its x.ps (i + 1)).1.length ≤ 5 * (i + 1) := by omega
    as_aux_lemma =>
      repeat' (first | ((with_reducible apply c_cond_f); exact rfl; exact decide_eq_false (by omega)) | (apply o_appH (enc := encPD) (ys := [(⟨20 - i, mid, rel, (af, fr.length, cf), (at_, (Plt.bTab n k 8).length, ct), (au, (Plt.bUn its n i its.length).length, cu)⟩ : PD)]); infer_instance; infer_instance; infer_instance; exact rfl; exact encPD_len; exact encPD_one; exact rfl; exact rfl; exact rfl; assumption; exact rL_; (exact fun w hw => SV.lit [(⟨20 - i, mid, rel, (af, fr.length, cf), (at_, (Plt.bTab n k 8).length, ct), (au, (Plt.bUn its n i its.length).length, cu)⟩ : PD)] encPD_len hw (by exact aT_) rfl rfl (by decide)); (first | decide | (constructor <;> (try simp only [List.length_cons, List.length_nil]) <;> omega) | (constructor <;> simp <;> omega)); intro a_ cp_ N_ hO_; have oN_ := hO_.own; (try simp only [List.nil_append, List.append_assoc] at hO_); (try simp only [List.append_eq, List.append_assoc, List.cons_append, List.nil_append])) | ((with_reducible first | apply o_move | apply o_assign | apply o_faddr0 | apply o_conv); exact rfl; exact rfl) | ((with_reducible apply gdo_load); first | refine wo_load (h := ?_) | refine wo_loadAll (h := ?_) | refine wo_loadC (h := ?_) | refine wo_ldV (h := ?_) | refine wo_ldF (h := ?_)) | ((with_reducible first | apply o_lss | apply o_eql | apply o_neq); exact rfl; exact rfl; exact rfl) | ((with_reducible first | apply o_add | apply o_sub | apply o_mul); exact rfl; exact rfl; exact rfl; (constructor <;> omega)) | ((with_reducible apply gdo_store); first | refine wo_store1 (h := ?_) | refine wo_storeA (h := ?_)) | ((with_reducible apply gdo_buildSlice); refine wo_buildSlice (h := fun _ => ?_)) | ((with_reducible first | apply c_seq | apply c_block | apply c_region | apply c_nil | apply c_ret | apply c_exit | apply c_skip)) | ((with_reducible first | apply e_then | apply e_then_ret | apply e_then_exit | apply e_in | apply e_in_ret | apply e_in_same)))
      refine l_again (i + 1, ((ar2, cr2), NR2), ((a_, cp_), ys ++ [(⟨20 - i, mid, rel, (af, fr.length, cf), (at_, (Plt.bTab n k 8).length, ct), (au, (Plt.bUn its n i its.length).length, cu)⟩ : PD)], N_), NF ++ (NT ++ (NU ++ NY))) ⟨⟨by dsimp only; omega, hnl⟩, hOR2, by simp [hyl], hO_, own_app oF (own_app oT (own_app oU oY)), hny⟩ (by dsimp only; omega) ?_ ?_
      · exact fS_
      · simp only [List.append_assoc]; exact hS_
  have hpl : i = min x.ps.length 6 := by omega
  subst hpl
  have hbl : (Plt.built x) = ⟨ms, its, (Plt.bAt ms its x.ps (min x.ps.length 6)).2⟩ := by unfold Plt.built; rw [hM, hI]
  rw [hbl]
  have hbpl := Plt.bAt_len ms its x.ps (min x.ps.length 6)
  repeat' (first | ((with_reducible apply c_cond_f); exact rfl; exact decide_eq_false (by omega)) | ((with_reducible apply o_pick_t); exact rfl; exact decide_eq_true (by omega); exact rfl; exact rfl) | ((with_reducible apply o_pick_f); exact rfl; exact decide_eq_false (by omega); exact rfl; exact rfl) | ((with_reducible apply g_run); exact rfl; exact decide_eq_true (by omega)) | ((with_reducible apply g_skip); exact rfl; exact decide_eq_false (by omega); exact rfl) | ((with_reducible first | apply o_move | apply o_assign | apply o_faddr0 | apply o_conv); exact rfl; exact rfl) | ((with_reducible apply gdo_load); first | refine wo_load (h := ?_) | refine wo_loadAll (h := ?_) | refine wo_loadC (h := ?_) | refine wo_ldV (h := ?_) | refine wo_ldF (h := ?_)) | ((with_reducible first | apply o_lss | apply o_eql | apply o_neq); exact rfl; exact rfl; exact rfl) | ((with_reducible apply gdo_store); first | refine wo_store1 (h := ?_) | refine wo_storeA (h := ?_)) | ((with_reducible apply o_len); infer_instance; exact rfl; exact rfl) | ((with_reducible first | apply c_seq | apply c_block | apply c_region | apply c_nil | apply c_ret | apply c_exit | apply c_skip)) | ((with_reducible apply c_cond_f); exact rfl; exact fF_) | ((with_reducible first | apply e_then | apply e_then_ret | apply e_then_exit | apply e_in | apply e_in_ret | apply e_in_same)) | ((with_reducible apply g_split_d); exact rfl; intro hcond; rotate_left; intro hcond; rotate_left))
  all_goals
    apply r_body; apply res1 Try.results10; exact rV_; intro w' hw
    have hyl2 : ys.length = (Plt.bAt ms its x.ps (min x.ps.length 6)).2.length := by rw [hyl, hbpl]
    rw [hyl2] at hOP
    rw [hdl] at hOM
    exact ⟨_, NM ++ (NI ++ (NP ++ (NY ++ NX))), rfl, ⟨am, cm, ai, ci, ap, cp, ds, ys, NM, NI, NP, NY ++ NX, by rw [hdl, hyl2], ⟨hOM, hOI, hOP⟩, ⟨rfl, own_app oY oX⟩, ⟨hdl, hyl2⟩, Shw.right hMX, Shw.left hPY⟩, hw.sub (by exact hS_), own_app oM (own_app oI (own_app oP (own_app oY oX)))⟩
end Go.Proofs.Ytkhaemjoekfhiaa
namespace Go.Sx.Plt
def minI (l : List (Int × Int)) (q : Int) : Int := match minuteF l q with
  | some m => m
  | none => -1
/-- How often an item is in one of the stackers. -/
def inSt (x nu : Int) (l : List (List Int)) : Int := if 0 ≤ nu then ((l.getD nu.toNat []).count x : Int) else 0
def allN (r : Run) (x : Int) (n : Nat) : Int := (r.res.over.count x : Int) + (r.res.rej.count x : Int) + (((r.res.stackers.take n).flatten.count x : Nat) : Int)
def hereF (r : Run) (x kd nu : Int) : Int := if kd = 2 then inSt x nu r.res.stackers else if kd = 3 then (r.res.over.count x : Int) else if kd = 4 then (r.res.rej.count x : Int) else 0
/-- What holds says of a place. -/
def holdsF (r : Run) (x kd ps nu : Int) : Prop := (allN r x r.res.stackers.length = 1 ∧ hereF r x kd nu = 1) ∧ ps = r.pass ∧ (nu = 0 ∨ kd = 2)
instance (r : Run) (x kd ps nu : Int) : Decidable (holdsF r x kd ps nu) := by unfold holdsF; infer_instance
end Go.Sx.Plt
namespace Go.Proofs.Ytkhaemjoekfhiaa
open Go Go.Sx Go.RowKit
attribute [local irreducible] WL WC WQ WR WB WF QB St Exit.then Exit.inBlock Exit.noGoto bodyPost roundPost beginK YR RG BM Calls B AgainD MeetD
/-! ## the minute of an item, and where a run holds it -/
end Go.Proofs.Ytkhaemjoekfhiaa
namespace Go.Sx.Plt
def ofBatch (items : List Item) (s : Int × Int) : List Int := if s.1 = 0 then (items.filter fun x => x.batch = s.2).map Item.id else []
def ofRun (s : Int × Int) (r : Run) : List Int := if r.pass = s.1 ∧ s.2 < r.res.stackers.length then r.res.stackers.getD s.2.toNat [] else []
/-- The items of some sources. -/
def takenF (items : List Item) (runs : List Run) (src : List (Int × Int)) : List Int := src.flatMap fun s => ofBatch items s ++ runs.flatMap (ofRun s)
theorem takenF_snoc {items : List Item} {runs : List Run} {src : List (Int × Int)} {i : Nat} {s : Int × Int} (h : src[i]? = some s) : takenF items runs (src.take (i + 1)) = takenF items runs (src.take i) ++ (ofBatch items s ++ runs.flatMap (ofRun s)) := by
  rw [Go.Proofs.Ytkhaemjoekfhiaa.take_snoc h, takenF, takenF, List.flatMap_append]; simp
theorem ofBatch_snoc {items : List Item} {s : Int × Int} {j : Nat} {x : Item} (h : items[j]? = some x) : ofBatch (items.take (j + 1)) s = ofBatch (items.take j) s ++ if s.1 = 0 ∧ x.batch = s.2 then [x.id] else [] := by
  rw [Go.Proofs.Ytkhaemjoekfhiaa.take_snoc h]
  unfold ofBatch
  by_cases h0 : s.1 = 0
  · rw [if_pos h0, if_pos h0, List.filter_append, List.map_append]
    by_cases h1 : x.batch = s.2
    · rw [if_pos ⟨h0, h1⟩]; simp [h1]
    · rw [if_neg (fun e => h1 e.2)]; simp [h1]
  · rw [if_neg h0, if_neg h0, if_neg (fun e => h0 e.1)]; rfl
theorem flatMap_snoc' {α β : Type} {l : List α} {j : Nat} {x : α} (f : α → List β) (h : l[j]? = some x) : (l.take (j + 1)).flatMap f = (l.take j).flatMap f ++ f x := by
  rw [Go.Proofs.Ytkhaemjoekfhiaa.take_snoc h, List.flatMap_append]; simp
theorem takenF_len {items : List Item} {runs : List Run} {src : List (Int × Int)} {M : Nat} (h : (takenF items runs src).length ≤ M) {i : Nat} {s : Int × Int} (hs : src[i]? = some s) (j n : Nat) :
    (takenF items runs (src.take i)).length + (ofBatch (items.take j) s).length ≤ M ∧ (takenF items runs (src.take i)).length + (ofBatch items s).length + ((runs.take n).flatMap (ofRun s)).length ≤ M := by
  have e1 := takenF_snoc (items := items) (runs := runs) hs
  have e2 : takenF items runs src = takenF items runs (src.take (i + 1)) ++ takenF items runs (src.drop (i + 1)) := by
    rw [takenF, takenF, takenF, ← List.flatMap_append, List.take_append_drop]
  have e3 : (runs.flatMap (ofRun s)).length = ((runs.take n).flatMap (ofRun s)).length + ((runs.drop n).flatMap (ofRun s)).length := by rw [← List.length_append, ← List.flatMap_append, List.take_append_drop]
  have e4 : (ofBatch (items.take j) s).length ≤ (ofBatch items s).length := by
    unfold ofBatch
    by_cases h0 : s.1 = 0
    · rw [if_pos h0, if_pos h0, List.length_map, List.length_map]
      exact (List.Sublist.filter _ (List.take_sublist j items)).length_le
    · rw [if_neg h0, if_neg h0]; exact Nat.le_refl _
  have := congrArg List.length e1
  have := congrArg List.length e2
  simp only [List.length_append] at *
  omega
end Go.Sx.Plt
namespace Go.Proofs.Ytkhaemjoekfhiaa
open Go Go.Sx Go.RowKit
attribute [local irreducible] WL WC WQ WR WB WF QB St Exit.then Exit.inBlock Exit.noGoto bodyPost roundPost beginK YR RG BM Calls B AgainD MeetD
/-! ## the items of the sources of a pass -/
def takenφ (T : List Int) (v : Value) (N : List Ent) : Prop := ∃ a c, v = .slice a T.length c ∧ OW 3 1 encI (.slice a T.length c) T N
set_option maxHeartbeats 8000000 in
set_option maxRecDepth 100000 in
theorem taken_calls {q : PlD} {p : Plt.Plant} {k : Nat} {y : Plt.Pass} {ar : Option Addr} {cr : Nat} {rds : List RD} {runs : List Plt.Run} {T : List Int} (hy : p.passes[k]? = some y) (hkr : k ≤ runs.length) (hsn : ∀ s ∈ y.src, 0 ≤ s.2) (hT : Plt.takenF p.items (runs.take k) y.src = T) (hTl : T.length ≤ 1000000)
    (w : World) (h : PlV w q p) (hr : RunsV w (.slice ar runs.length cr) rds runs) : Calls Try.prog 21 #[plV q, .slice ar runs.length cr, .int .i64 k] w fun e w' => ∃ v N, e = .returned v ∧ takenφ T v N ∧ Rep w w' N ∧ ∀ x ∈ N, x.own = true := by
  obtain ⟨⟨a1_, n1, c1⟩, ⟨a2, n2, c2⟩, ⟨a3, n3, c3⟩, dms, ys⟩ := q
  obtain ⟨hM, hI, hP, lm, lp, hmach, hpass⟩ := h
  dsimp only [sdV, plV] at hM hI hP lm lp hmach hpass ⊢
  obtain ⟨_, _, e1, hc1, _⟩ := hM.open
  cases e1
  obtain ⟨_, _, e2, hc2, hop2⟩ := hI.open
  cases e2
  obtain ⟨_, _, e3, hc3, hop3⟩ := hP.open
  cases e3
  rw [lm] at hM hc1 ⊢
  rw [lp] at hP hop3 hc3 ⊢
  obtain ⟨hRs, hRl, hRv⟩ := hr
  obtain ⟨_, _, e4, hc4, hop4⟩ := hRs.open
  simp only [Value.slice.injEq] at e4
  obtain ⟨rfl, -, rfl⟩ := e4
  have hkl : k < p.passes.length := (List.getElem?_eq_some_iff.1 hy).1
  obtain ⟨⟨pid, pma, pre, ⟨v1, w1, u1⟩, ⟨v2, w2, u2⟩, ⟨v3, w3, u3⟩⟩, hpd⟩ : ∃ d, ys[k]? = some d := ⟨_, List.getElem?_eq_getElem (by omega)⟩
  have hpv := hpass k _ y hpd hy
  have hF := hpv.src
  dsimp only [sdV] at hF
  obtain ⟨_, _, e5, hc5, hop5⟩ := hF.open
  cases e5
  subst hT
  have hlens := fun (i : Nat) (s : Int × Int) (hs : y.src[i]? = some s) => Plt.takenF_len (items := p.items) (runs := runs.take k) (M := 1000000) hTl hs
  refine f_enter3 Try.func21 rfl Try.ntmps21 rfl (Rep.start w) ?_
  obtain ⟨b, off, cc, e, fz, rfl, hk, hpt⟩ := hop3 (by omega)
  have g1 : ∀ j u, ([.int .i64 pid, .int .i64 pma, .int .i64 pre, .slice v1 y.src.length u1, .slice v2 w2 u2, .slice v3 w3 u3] : List Value)[j]? = some u → cc[off + k * 6 + j]? = some u := hpt.get hpd
  repeat' (first | ((with_reducible first | apply o_move | apply o_assign | apply o_faddr0); exact rfl; exact rfl) | ((with_reducible apply o_faddr); exact rfl; exact rfl) | ((with_reducible apply gdo_load); first | refine wo_load (h := ?_) | refine wo_loadAll (h := ?_) | refine wo_loadC (h := ?_) | refine wo_ldV (h := ?_) | refine wo_ldF (h := ?_)) | ((with_reducible apply o_box); exact rfl; exact rfl; exact rfl; intro _) | ((with_reducible apply o_len); infer_instance; exact rfl; exact rfl) | ((with_reducible apply o_idx); infer_instance; infer_instance; exact rfl; exact rfl; (first | exact rfl | omega); exact rfl; (first | assumption | omega | decide)) | ((with_reducible first | apply c_seq | apply c_block | apply c_region | apply c_nil | apply c_ret | apply c_exit | apply c_skip)) | ((with_reducible first | apply e_then | apply e_then_ret | apply e_then_exit | apply e_in | apply e_in_ret | apply e_in_same)))
  rename_i b3
  apply c_loop (σ := Nat × (Option Addr × Nat) × List Ent) (Fs := fun t => [(21, .int .i64 t.1), (20, .int .i64 y.src.length), (19, .slice v1 y.src.length u1), (7, .slice t.2.1.1 (Plt.takenF p.items (runs.take k) (y.src.take t.1)).length t.2.1.2), (3, ptr b3), (1, .slice ar runs.length cr), (2, .int .i64 k)])
    (Ls := fun t => t.2.2 ++ (⟨b3, Ce [.slice a1_ p.ms.length c1, .slice a2 p.items.length c2, .slice (some ⟨b, off, none⟩) p.passes.length c3] 29, true⟩ :: []))
    (I := fun t => t.1 ≤ y.src.length ∧ OW 3 1 encI (.slice t.2.1.1 (Plt.takenF p.items (runs.take k) (y.src.take t.1)).length t.2.1.2) (Plt.takenF p.items (runs.take k) (y.src.take t.1)) t.2.2) (μ := fun t => y.src.length - t.1) (s0 := (0, (none, 0), []))
  · exact ⟨Nat.zero_le _, OW.nil⟩
  · exact fS_
  · exact hS_
  rintro ⟨i, ⟨ao, co⟩, N⟩ ⟨hi, hO⟩
  dsimp only at hi hO ⊢
  have oN := hO.own
  by_cases hlt : i < y.src.length
  · obtain ⟨⟨s1, s2⟩, hx⟩ : ∃ s, y.src[i]? = some s := ⟨_, List.getElem?_eq_getElem hlt⟩
    have hs2 := hsn _ (List.mem_of_getElem? hx)
    dsimp only at hs2
    obtain ⟨b', off', cc', e', fz', rfl, hk', hpt'⟩ := hop5 (by omega)
    have g2 : ∀ j u, ([.int .i64 s1, .int .i64 s2] : List Value)[j]? = some u → cc'[off' + i * 2 + j]? = some u := hpt'.get hx
    have hl := hlens i _ hx
    have hsn1 := Plt.takenF_snoc (items := p.items) (runs := runs.take k) hx
    generalize Plt.takenF p.items (runs.take k) (y.src.take i) = L0 at hO hl hsn1 ⊢
    repeat' (first | ((with_reducible apply c_cond_t); exact rfl; exact decide_eq_true (by omega)) | ((with_reducible first | apply o_move | apply o_assign | apply o_faddr0); exact rfl; exact rfl) | ((with_reducible apply gdo_load); first | refine wo_load (h := ?_) | refine wo_loadAll (h := ?_) | refine wo_loadC (h := ?_) | refine wo_ldV (h := ?_) | refine wo_ldF (h := ?_)) | ((with_reducible first | apply o_lss | apply o_eql); exact rfl; exact rfl; exact rfl) | ((with_reducible apply o_alloc); exact rfl; intro _) | ((with_reducible apply gdo_store); first | refine wo_store1 (h := ?_) | refine wo_storeA (h := ?_)) | ((with_reducible apply o_len); infer_instance; exact rfl; exact rfl) | ((with_reducible apply o_idx); infer_instance; infer_instance; exact rfl; exact rfl; (first | exact rfl | omega); exact rfl; (first | assumption | omega | decide)) | ((with_reducible first | apply c_seq | apply c_block | apply c_region | apply c_nil | apply c_ret | apply c_exit | apply c_skip)) | ((with_reducible first | apply e_then | apply e_then_ret | apply e_then_exit | apply e_in | apply e_in_ret | apply e_in_same)))
    rename_i b9
    apply c_loop (σ := Nat × (Option Addr × Nat) × List Ent) (Fs := fun t => [(28, .int .i64 t.1), (27, .int .i64 p.items.length), (26, .slice a2 p.items.length c2), (9, ptr b9), (21, .int .i64 i), (20, .int .i64 y.src.length), (19, .slice (some ⟨b', off', none⟩) y.src.length u1), (7, .slice t.2.1.1 (L0 ++ Plt.ofBatch (p.items.take t.1) (s1, s2)).length t.2.1.2), (3, ptr b3), (1, .slice ar runs.length cr), (2, .int .i64 k)])
      (Ls := fun t => ⟨b9, Ce [.int .i64 s1, .int .i64 s2] 64, true⟩ :: (t.2.2 ++ (⟨b3, Ce [.slice a1_ p.ms.length c1, .slice a2 p.items.length c2, .slice (some ⟨b, off, none⟩) p.passes.length c3] 29, true⟩ :: [])))
      (I := fun t => t.1 ≤ p.items.length ∧ OW 3 1 encI (.slice t.2.1.1 (L0 ++ Plt.ofBatch (p.items.take t.1) (s1, s2)).length t.2.1.2) (L0 ++ Plt.ofBatch (p.items.take t.1) (s1, s2)) t.2.2) (μ := fun t => p.items.length - t.1) (s0 := (0, (ao, co), N))
    · exact ⟨Nat.zero_le _, by dsimp only; rw [show Plt.ofBatch (p.items.take 0) (s1, s2) = [] from by simp [Plt.ofBatch], List.append_nil]; exact hO⟩
    · (try dsimp only); rw [show Plt.ofBatch (p.items.take 0) (s1, s2) = [] from by simp [Plt.ofBatch], List.append_nil]; exact fS_
    · exact hS_
    clear hO oN
    rintro ⟨j, ⟨ao, co⟩, N⟩ ⟨hj, hO⟩
    dsimp only at hj hO ⊢
    have oN := hO.own
    by_cases hlt2 : j < p.items.length
    · obtain ⟨⟨xi, xs, xb⟩, hz⟩ : ∃ s, p.items[j]? = some s := ⟨_, List.getElem?_eq_getElem hlt2⟩
      obtain ⟨b2, off2, cc2, e2, fz2, rfl, hk2, hpt2⟩ := hop2 (by omega)
      have g3 : ∀ j' u, ([.int .i64 xi, .int .i64 xs, .int .i64 xb] : List Value)[j']? = some u → cc2[off2 + j * 3 + j']? = some u := hpt2.get hz
      have hl2 := (hl j 0).1
      have hob := Plt.ofBatch_snoc (s := (s1, s2)) hz
      dsimp only at hob
      rw [← List.length_append] at hl2
      by_cases hcc : s1 = 0 ∧ xb = s2
      · rw [if_pos hcc] at hob
        rw [show L0 ++ Plt.ofBatch (p.items.take j) (s1, s2) = L0 ++ Plt.ofBatch (p.items.take j) (s1, s2) from rfl] at hO
        have hob2 : L0 ++ Plt.ofBatch (p.items.take (j + 1)) (s1, s2) = (L0 ++ Plt.ofBatch (p.items.take j) (s1, s2)) ++ [xi] := by rw [hob, List.append_assoc]
        generalize L0 ++ Plt.ofBatch (p.items.take j) (s1, s2) = L1 at hO hl2 hob2 ⊢
        as_aux_lemma =>
          repeat' (first | ((with_reducible apply c_cond_t); exact rfl; exact decide_eq_true (by omega)) | ((with_reducible apply o_pick_t); exact rfl; exact decide_eq_true (by omega); exact rfl; exact rfl) | ((with_reducible apply g_run); exact rfl; exact decide_eq_true (by omega)) | (apply o_appH (enc := encI) (ys := [(xi)]); infer_instance; infer_instance; infer_instance; exact rfl; exact encI_len; exact encI_one; exact rfl; exact rfl; exact rfl; assumption; exact rL_; (exact fun w hw => SV.lit [(xi)] encI_len hw (by exact aT_) rfl rfl (by decide)); (first | decide | (constructor <;> (try simp only [List.length_cons, List.length_nil]) <;> omega) | (constructor <;> simp <;> omega)); intro a_ cp_ N_ hO_; have oN_ := hO_.own; (try simp only [List.nil_append, List.append_assoc] at hO_); (try simp only [List.append_eq, List.append_assoc, List.cons_append, List.nil_append])) | ((with_reducible first | apply o_move | apply o_assign | apply o_faddr0); exact rfl; exact rfl) | ((with_reducible apply gdo_load); first | refine wo_load (h := ?_) | refine wo_loadAll (h := ?_) | refine wo_loadC (h := ?_) | refine wo_ldV (h := ?_) | refine wo_ldF (h := ?_)) | ((with_reducible first | apply o_lss | apply o_eql); exact rfl; exact rfl; exact rfl) | ((with_reducible apply o_add); exact rfl; exact rfl; exact rfl; (constructor <;> omega)) | ((with_reducible apply o_alloc); exact rfl; intro _) | ((with_reducible apply gdo_store); first | refine wo_store1 (h := ?_) | refine wo_storeA (h := ?_)) | ((with_reducible apply gdo_buildSlice); refine wo_buildSlice (h := fun _ => ?_)) | ((with_reducible apply o_idx); infer_instance; infer_instance; exact rfl; exact rfl; (first | exact rfl | omega); exact rfl; (first | assumption | omega | decide)) | ((with_reducible first | apply c_seq | apply c_block | apply c_region | apply c_nil | apply c_ret | apply c_exit | apply c_skip)) | ((with_reducible first | apply e_then | apply e_then_ret | apply e_then_exit | apply e_in | apply e_in_ret | apply e_in_same)))
          refine l_again (j + 1, (a_, cp_), N_) ⟨by dsimp only; omega, by dsimp only; rw [hob2]; exact hO_⟩ (by dsimp only; omega) ?_ ?_
          · (try dsimp only); rw [hob2]; exact fS_
          · exact hS_
      · rw [if_neg hcc, List.append_nil] at hob
        as_aux_lemma =>
          repeat' (first | ((with_reducible apply c_cond_t); exact rfl; exact decide_eq_true (by omega)) | ((with_reducible apply c_cond_f); exact rfl; exact decide_eq_false (by omega)) | ((with_reducible apply o_pick_t); exact rfl; exact decide_eq_true (by omega); exact rfl; exact rfl) | ((with_reducible apply o_pick_f); exact rfl; exact decide_eq_false (by omega); exact rfl; exact rfl) | ((with_reducible apply g_run); exact rfl; exact decide_eq_true (by omega)) | ((with_reducible apply g_skip); exact rfl; exact decide_eq_false (by omega); exact rfl) | ((with_reducible first | apply o_move | apply o_assign | apply o_faddr0); exact rfl; exact rfl) | ((with_reducible apply gdo_load); first | refine wo_load (h := ?_) | refine wo_loadAll (h := ?_) | refine wo_loadC (h := ?_) | refine wo_ldV (h := ?_) | refine wo_ldF (h := ?_)) | ((with_reducible first | apply o_lss | apply o_eql); exact rfl; exact rfl; exact rfl) | ((with_reducible apply o_add); exact rfl; exact rfl; exact rfl; (constructor <;> omega)) | ((with_reducible apply o_alloc); exact rfl; intro _) | ((with_reducible apply gdo_store); first | refine wo_store1 (h := ?_) | refine wo_storeA (h := ?_)) | ((with_reducible apply o_idx); infer_instance; infer_instance; exact rfl; exact rfl; (first | exact rfl | omega); exact rfl; (first | assumption | omega | decide)) | ((with_reducible first | apply c_seq | apply c_block | apply c_region | apply c_nil | apply c_ret | apply c_exit | apply c_skip)) | ((with_reducible apply c_cond_f); exact rfl; exact fF_) | ((with_reducible first | apply e_then | apply e_then_ret | apply e_then_exit | apply e_in | apply e_in_ret | apply e_in_same)) | ((with_reducible apply g_split_d); exact rfl; intro hcond; rotate_left; intro hcond; rotate_left))
          all_goals try (exfalso; omega)
          all_goals
            refine l_again (j + 1, (ao, co), N) ⟨by dsimp only; omega, by dsimp only; rw [hob]; exact hO⟩ (by dsimp only; omega) ?_ ?_
            · (try dsimp only); rw [hob]; exact fS_
            · exact hS_
    obtain rfl : j = p.items.length := by omega
    rw [List.take_length] at hO ⊢
    have hl3 := fun n => (hl 0 n).2
    rw [← List.length_append] at hl3
    rw [← List.append_assoc] at hsn1
    generalize L0 ++ Plt.ofBatch p.items (s1, s2) = L1 at hO hl3 hsn1 ⊢
    repeat' (first | ((with_reducible apply c_cond_f); exact rfl; exact decide_eq_false (by omega)) | ((with_reducible apply o_sliceH (h' := k)); infer_instance; infer_instance; exact rfl; exact rfl; (exact .inr ⟨_, rfl⟩); omega; exact rfl) | ((with_reducible first | apply o_move | apply o_assign | apply o_faddr0); exact rfl; exact rfl) | ((with_reducible first | apply o_lss | apply o_eql); exact rfl; exact rfl; exact rfl) | ((with_reducible apply o_len); infer_instance; exact rfl; exact rfl) | ((with_reducible first | apply c_seq | apply c_block | apply c_region | apply c_nil | apply c_ret | apply c_exit | apply c_skip)) | ((with_reducible first | apply e_then | apply e_then_ret | apply e_then_exit | apply e_in | apply e_in_ret | apply e_in_same)))
    apply c_loop (σ := Nat × (Option Addr × Nat) × List Ent) (Fs := fun t => [(52, .int .i64 t.1), (51, .int .i64 k), (50, .slice ar k cr), (9, ptr b9), (21, .int .i64 i), (20, .int .i64 y.src.length), (19, .slice (some ⟨b', off', none⟩) y.src.length u1), (7, .slice t.2.1.1 (L1 ++ (runs.take t.1).flatMap (Plt.ofRun (s1, s2))).length t.2.1.2), (3, ptr b3), (1, .slice ar runs.length cr), (2, .int .i64 k)])
      (Ls := fun t => ⟨b9, Ce [.int .i64 s1, .int .i64 s2] 64, true⟩ :: (t.2.2 ++ (⟨b3, Ce [.slice a1_ p.ms.length c1, .slice a2 p.items.length c2, .slice (some ⟨b, off, none⟩) p.passes.length c3] 29, true⟩ :: [])))
      (I := fun t => t.1 ≤ k ∧ OW 3 1 encI (.slice t.2.1.1 (L1 ++ (runs.take t.1).flatMap (Plt.ofRun (s1, s2))).length t.2.1.2) (L1 ++ (runs.take t.1).flatMap (Plt.ofRun (s1, s2))) t.2.2) (μ := fun t => k - t.1) (s0 := (0, (ao, co), N))
    · exact ⟨Nat.zero_le _, by dsimp only; rw [List.take_zero, List.flatMap_nil, List.append_nil]; exact hO⟩
    · (try dsimp only); rw [List.take_zero, List.flatMap_nil, List.append_nil]; exact fS_
    · exact hS_
    clear hO oN
    rintro ⟨j, ⟨ao, co⟩, N⟩ ⟨hj, hO⟩
    dsimp only at hj hO ⊢
    have oN := hO.own
    by_cases hlt2 : j < k
    · obtain ⟨r, hz⟩ : ∃ s, runs[j]? = some s := ⟨_, List.getElem?_eq_getElem (by omega)⟩
      obtain ⟨d, hd⟩ : ∃ s, rds[j]? = some s := ⟨_, List.getElem?_eq_getElem (by omega)⟩
      have hv := hRv j d r hd hz
      obtain ⟨hvp, -, -, -, -, ⟨ss, hv1, hv2⟩, -, -⟩ := hv
      obtain ⟨dp, ds', df, ⟨x1, n1, k1⟩, ⟨x2, n2, k2⟩, ⟨x3, n3, k3⟩, ⟨x4, n4, k4⟩, ⟨x5, n5, k5⟩, ⟨x6, n6, k6⟩, ⟨x7, n7, k7⟩⟩ := d
      dsimp only [sdV] at hvp hv1 hv2
      obtain ⟨_, _, e6, hc6, hop6⟩ := hv1.open
      cases e6
      have hsl := hv2.1
      obtain ⟨b2, off2, cc2, e2, fz2, rfl, hk2, hpt2⟩ := hop4 (by omega)
      have g3 : ∀ j' u, ([.int .i64 dp, .int .i64 ds', .int .i64 df, .slice x1 n1 k1, .slice x2 n2 k2, .slice x3 ss.length k3, .slice x4 n4 k4, .slice x5 n5 k5, .slice x6 n6 k6, .slice x7 n7 k7] : List Value)[j']? = some u → cc2[off2 + j * 10 + j']? = some u := hpt2.get hd
      have hl2 := hl3 j
      rw [List.take_take, Nat.min_eq_left (by omega), ← List.length_append] at hl2
      have hob := Plt.flatMap_snoc' (Plt.ofRun (s1, s2)) hz
      by_cases hcc : r.pass = s1 ∧ s2 < r.res.stackers.length
      · have hor : Plt.ofRun (s1, s2) r = r.res.stackers.getD s2.toNat [] := by unfold Plt.ofRun; rw [if_pos hcc]
        obtain ⟨n, rfl⟩ := Int.eq_ofNat_of_zero_le hs2
        obtain ⟨l, hy2⟩ : ∃ l, r.res.stackers[n]? = some l := ⟨_, List.getElem?_eq_getElem (by omega)⟩
        obtain ⟨⟨sa, sn, sc⟩, hx2⟩ : ∃ s, ss[n]? = some s := ⟨_, List.getElem?_eq_getElem (by omega)⟩
        have hsv := hv2.2 n _ _ hx2 hy2
        dsimp only [sdV] at hsv
        obtain ⟨b6, off6, cc6, e6, fz6, rfl, hk6, hpt6⟩ := hop6 (by omega)
        have g4 : cc6[off6 + n * 1]? = some (.slice sa sn sc) := hpt6.one hx2 rfl
        rw [hor, show ((n : Int)).toNat = n from rfl, show r.res.stackers.getD n [] = l from by simp [List.getD_eq_getElem?_getD, hy2]] at hob
        have hl4 := hl3 (j + 1)
        rw [List.take_take, Nat.min_eq_left (by omega), ← List.length_append] at hl4
        have hob2 := congrArg (fun z => L1 ++ z) hob
        rw [← List.append_assoc] at hob2
        rw [hob2, List.length_append] at hl4
        generalize L1 ++ (runs.take j).flatMap (Plt.ofRun (s1, (n : Int))) = L2 at hO hl2 hl4 hob2 ⊢
        as_aux_lemma =>
          repeat' (first | ((with_reducible apply c_cond_t); exact rfl; exact decide_eq_true (by omega)) | ((with_reducible apply o_pick_t); exact rfl; exact decide_eq_true (by omega); exact rfl; exact rfl) | ((with_reducible apply g_run); exact rfl; exact decide_eq_true (by omega)) | (apply o_appH (enc := encI); infer_instance; infer_instance; infer_instance; exact rfl; exact encI_len; exact encI_one; exact rfl; exact rfl; exact rfl; assumption; exact rL_; (exact fun w hw => (hsv.keep hw (by exact aO_))); (first | decide | (constructor <;> (try simp only [List.length_cons, List.length_nil]) <;> omega) | (constructor <;> simp <;> omega)); intro a_ cp_ N_ hO_; have oN_ := hO_.own; (try simp only [List.nil_append, List.append_assoc] at hO_); (try simp only [List.append_eq, List.append_assoc, List.cons_append, List.nil_append])) | ((with_reducible first | apply o_move | apply o_assign | apply o_faddr0); exact rfl; exact rfl) | ((with_reducible apply o_faddr); exact rfl; exact rfl) | ((with_reducible apply gdo_load); first | refine wo_load (h := ?_) | refine wo_loadAll (h := ?_) | refine wo_loadC (h := ?_) | refine wo_ldV (h := ?_) | refine wo_ldF (h := ?_)) | ((with_reducible first | apply o_lss | apply o_eql); exact rfl; exact rfl; exact rfl) | ((with_reducible apply o_add); exact rfl; exact rfl; exact rfl; (constructor <;> omega)) | ((with_reducible apply o_alloc); exact rfl; intro _) | ((with_reducible apply gdo_store); first | refine wo_store1 (h := ?_) | refine wo_storeA (h := ?_)) | ((with_reducible apply o_len); infer_instance; exact rfl; exact rfl) | ((with_reducible apply o_idx); infer_instance; infer_instance; exact rfl; exact rfl; (first | exact rfl | omega); exact rfl; (first | assumption | omega | decide)) | ((with_reducible first | apply c_seq | apply c_block | apply c_region | apply c_nil | apply c_ret | apply c_exit | apply c_skip)) | ((with_reducible first | apply e_then | apply e_then_ret | apply e_then_exit | apply e_in | apply e_in_ret | apply e_in_same)))
          refine l_again (j + 1, (a_, cp_), N_) ⟨by dsimp only; omega, by dsimp only; rw [hob2]; exact hO_⟩ (by dsimp only; omega) ?_ ?_
          · (try dsimp only); rw [hob2]; exact fS_
          · exact hS_
      · have hor : Plt.ofRun (s1, s2) r = [] := by unfold Plt.ofRun; rw [if_neg hcc]
        rw [hor, List.append_nil] at hob
        as_aux_lemma =>
          repeat' (first | ((with_reducible apply c_cond_t); exact rfl; exact decide_eq_true (by omega)) | ((with_reducible apply c_cond_f); exact rfl; exact decide_eq_false (by omega)) | ((with_reducible apply o_pick_t); exact rfl; exact decide_eq_true (by omega); exact rfl; exact rfl) | ((with_reducible apply o_pick_f); exact rfl; exact decide_eq_false (by omega); exact rfl; exact rfl) | ((with_reducible apply g_run); exact rfl; exact decide_eq_true (by omega)) | ((with_reducible apply g_skip); exact rfl; exact decide_eq_false (by omega); exact rfl) | ((with_reducible first | apply o_move | apply o_assign | apply o_faddr0); exact rfl; exact rfl) | ((with_reducible apply o_faddr); exact rfl; exact rfl) | ((with_reducible apply gdo_load); first | refine wo_load (h := ?_) | refine wo_loadAll (h := ?_) | refine wo_loadC (h := ?_) | refine wo_ldV (h := ?_) | refine wo_ldF (h := ?_)) | ((with_reducible first | apply o_lss | apply o_eql); exact rfl; exact rfl; exact rfl) | ((with_reducible apply o_add); exact rfl; exact rfl; exact rfl; (constructor <;> omega)) | ((with_reducible apply o_alloc); exact rfl; intro _) | ((with_reducible apply gdo_store); first | refine wo_store1 (h := ?_) | refine wo_storeA (h := ?_)) | ((with_reducible apply o_len); infer_instance; exact rfl; exact rfl) | ((with_reducible apply o_idx); infer_instance; infer_instance; exact rfl; exact rfl; (first | exact rfl | omega); exact rfl; (first | assumption | omega | decide)) | ((with_reducible first | apply c_seq | apply c_block | apply c_region | apply c_nil | apply c_ret | apply c_exit | apply c_skip)) | ((with_reducible apply c_cond_f); exact rfl; exact fF_) | ((with_reducible first | apply e_then | apply e_then_ret | apply e_then_exit | apply e_in | apply e_in_ret | apply e_in_same)) | ((with_reducible apply g_split_d); exact rfl; intro hcond; rotate_left; intro hcond; rotate_left))
          all_goals try (exfalso; omega)
          all_goals
            refine l_again (j + 1, (ao, co), N) ⟨by dsimp only; omega, by dsimp only; rw [hob]; exact hO⟩ (by dsimp only; omega) ?_ ?_
            · (try dsimp only); rw [hob]; exact fS_
            · exact hS_
    obtain rfl : j = k := by omega
    rw [← hsn1] at hO ⊢
    as_aux_lemma =>
      repeat' (first | ((with_reducible apply c_cond_f); exact rfl; exact decide_eq_false (by omega)) | ((with_reducible first | apply o_move | apply o_assign | apply o_faddr0); exact rfl; exact rfl) | ((with_reducible first | apply o_lss | apply o_eql); exact rfl; exact rfl; exact rfl) | ((with_reducible apply o_add); exact rfl; exact rfl; exact rfl; (constructor <;> omega)) | ((with_reducible first | apply c_seq | apply c_block | apply c_region | apply c_nil | apply c_ret | apply c_exit | apply c_skip)) | ((with_reducible first | apply e_then | apply e_then_ret | apply e_then_exit | apply e_in | apply e_in_ret | apply e_in_same)))
      refine l_again (i + 1, (ao, co), N) ⟨by dsimp only; omega, hO⟩ (by dsimp only; omega) ?_ ?_
      · exact fS_
      · exact hS_
  obtain rfl : i = y.src.length := by omega
  rw [List.take_length] at hO ⊢
  repeat' (first | ((with_reducible apply c_cond_f); exact rfl; exact decide_eq_false (by omega)) | ((with_reducible first | apply o_move | apply o_assign | apply o_faddr0); exact rfl; exact rfl) | ((with_reducible first | apply o_lss | apply o_eql); exact rfl; exact rfl; exact rfl) | ((with_reducible first | apply c_seq | apply c_block | apply c_region | apply c_nil | apply c_ret | apply c_exit | apply c_skip)) | ((with_reducible first | apply e_then | apply e_then_ret | apply e_then_exit | apply e_in | apply e_in_ret | apply e_in_same)))
  apply r_body; apply res1 Try.results21; exact rV_; intro w' hw
  exact ⟨_, _, rfl, ⟨ao, co, rfl, hO⟩, hw.sub (by exact hS_), oN⟩
theorem waiting_calls {q : PlD} {p : Plt.Plant} {k : Nat} {y : Plt.Pass} {ar : Option Addr} {cr : Nat} {rds : List RD} {runs : List Plt.Run} {T : List Int} (hy : p.passes[k]? = some y) (hkr : k ≤ runs.length) (hsn : ∀ s ∈ y.src, 0 ≤ s.2) (hT : Plt.takenF p.items (runs.take k) y.src = T) (hTl : T.length ≤ 1000000)
    (w : World) (h : PlV w q p) (hr : RunsV w (.slice ar runs.length cr) rds runs) : Calls Try.prog 19 #[plV q, .slice ar runs.length cr, .int .i64 k] w fun e w' => e = .returned (.int .i64 T.length) ∧ Below w.heap.size w w' := by
  have hc := fun (w' : World) (L : List Ent) (hw : Rep w w' L) (ho : AO L) => taken_calls hy hkr hsn hT hTl w' (h.keep hw ho) (hr.keep hw ho)
  obtain ⟨⟨a1_, n1, c1⟩, ⟨a2, n2, c2⟩, ⟨a3, n3, c3⟩, dms, ys⟩ := q
  refine f_enter3 Try.func19 rfl Try.ntmps19 rfl (Rep.start w) ?_
  repeat' (first | ((first | ((with_reducible apply o_call_new (f := 21)); exact rfl) | ((with_reducible apply q_call_new (f := 21)); exact rfl; exact rfl; exact sJ_)); exact eV_; exact (fun w hw => hc w _ hw (by exact aO_)); rintro v N ⟨ao, co, rfl, hO⟩ <;> (try simp only [List.cons_append, List.nil_append])) | ((with_reducible first | apply o_move | apply o_assign); exact rfl; exact rfl) | ((with_reducible apply gdo_load); first | refine wo_load (h := ?_) | refine wo_loadAll (h := ?_) | refine wo_loadC (h := ?_) | refine wo_ldV (h := ?_) | refine wo_ldF (h := ?_)) | ((with_reducible apply o_box); exact rfl; exact rfl; exact rfl; intro _) | ((with_reducible apply o_len); infer_instance; exact rfl; exact rfl) | ((with_reducible first | apply c_seq | apply c_block | apply c_region | apply c_nil | apply c_ret | apply c_exit | apply c_skip)) | ((with_reducible first | apply e_then | apply e_then_ret | apply e_then_exit | apply e_in | apply e_in_ret | apply e_in_same)))
  have oN := hO.own
  apply r_body; apply res1 Try.results19; exact rV_; intro w' hw
  exact ⟨rfl, hw.below (show AO _ from by exact aO_)⟩
end Go.Proofs.Ytkhaemjoekfhiaa
namespace Go.Sx.Plt
open Go.Proofs.Ytkhaemjoekfhiaa (mslF_keys psF tkF psF_snoc tkF_snoc)
theorem machsBad_of : ∀ {l : List Mach} {met : List Int} {i : Nat}, (l.map Mach.id).Nodup → (∀ m ∈ l, m.id ∉ met ∧ rightM m) → machsBad met i l = none
  | [], _, _, _, _ => rfl
  | m :: r, met, i, hn, h => by
    rw [List.map_cons, List.nodup_cons] at hn
    rw [machsBad, if_pos (h m List.mem_cons_self)]
    refine machsBad_of hn.2 fun x hx => ⟨fun hm => ?_, (h x (List.mem_cons_of_mem _ hx)).2⟩
    rcases List.mem_append.1 hm with hm | hm
    · exact (h x (List.mem_cons_of_mem _ hx)).1 hm
    · simp at hm
      exact hn.1 (List.mem_map.2 ⟨x, hx, hm⟩)
theorem itemsBad_of : ∀ {l : List Item} {met : List Int} {i : Nat}, (l.map Item.id).Nodup → (∀ m ∈ l, m.id ∉ met ∧ m.ok) → itemsBad met i l = none
  | [], _, _, _, _ => rfl
  | m :: r, met, i, hn, h => by
    rw [List.map_cons, List.nodup_cons] at hn
    rw [itemsBad, if_pos ⟨(h m List.mem_cons_self).2, (h m List.mem_cons_self).1⟩]
    refine itemsBad_of hn.2 fun x hx => ⟨fun hm => ?_, (h x (List.mem_cons_of_mem _ hx)).2⟩
    rcases List.mem_append.1 hm with hm | hm
    · exact (h x (List.mem_cons_of_mem _ hx)).1 hm
    · simp at hm
      exact hn.1 (List.mem_map.2 ⟨x, hx, hm⟩)
theorem passesBad_of {msl : List (Int × Int)} : ∀ {l : List Pass} {ps tk : List (Int × Int)} {i : Nat}, (∀ (j : Nat) (y : Pass), l[j]? = some y → passOk msl (ps ++ psF msl (l.take j)) (tk ++ tkF (l.take j)) y) → passesBad msl ps tk i l = none
  | [], _, _, _, _ => rfl
  | a :: r, ps, tk, i, h => by
    have h0 : passOk msl ps tk a := by have := h 0 a rfl; simpa [psF, tkF] using this
    rw [passesBad, if_pos h0]
    refine passesBad_of fun j y hy => ?_
    have := h (j + 1) y (by simpa using hy)
    simpa [psF, tkF, List.append_assoc] using this
theorem validF_of {p : Plant} (hs : p.ms.length ≤ 20 ∧ p.items.length ≤ 2000 ∧ p.passes.length ≤ 60) (h1 : (p.ms.map Mach.id).Nodup) (h2 : ∀ m ∈ p.ms, rightM m) (h3 : (p.items.map Item.id).Nodup) (h4 : ∀ x ∈ p.items, x.ok)
    (h5 : ∀ (j : Nat) (y : Pass), p.passes[j]? = some y → passOk (mslF p.ms) (psF (mslF p.ms) (p.passes.take j)) (tkF (p.passes.take j)) y) : validF p = (0, 0) := by
  unfold validF
  rw [if_neg (by omega), machsBad_of h1 fun m hm => ⟨by simp, h2 m hm⟩]
  dsimp only
  rw [itemsBad_of h3 fun x hx => ⟨by simp, h4 x hx⟩]
  dsimp only
  rw [passesBad_of fun j y hy => by simpa using h5 j y hy]
theorem wrongS_of {b : Int} : ∀ {l : List Sh} {i : Nat} {b : Int}, (∀ (j : Nat) (s : Sh), l[j]? = some s → s.f < s.t ∧ s.t ≤ 1051898399 ∧ (j = 0 → b ≤ s.f) ∧ ∀ s', l[j + 1]? = some s' → s.t ≤ s'.f) → wrongS b i l = none
  | [], _, _, _ => rfl
  | s :: r, i, b, h => by
    obtain ⟨h1, h2, h3, h4⟩ := h 0 s rfl
    rw [wrongS, if_pos ⟨h3 rfl, h1, h2⟩]
    refine wrongS_of (b := s.t) fun j s' hs' => ?_
    obtain ⟨g1, g2, _, g4⟩ := h (j + 1) s' (by simpa using hs')
    refine ⟨g1, g2, fun hj => ?_, fun s'' hs'' => g4 s'' (by simpa using hs'')⟩
    subst hj
    exact h4 s' (by simpa using hs')
/-! ## what built makes -/
theorem bMach_id {x : Sk} {j : Nat} {m : Mach} (h : (bMs x)[j]? = some m) : j < (1 + nb x.ms 0 % 3).toNat ∧ m = bMach x.ms x.shs j := by
  obtain ⟨h1, h2⟩ := List.getElem?_eq_some_iff.1 h
  unfold bMs bMsN at h1 h2
  simp at h1 h2
  exact ⟨by simpa using h1, h2.symm⟩
theorem bMs_len (x : Sk) : 1 ≤ (bMs x).length ∧ (bMs x).length ≤ 3 := by
  have := nb_bd x.ms 0
  unfold bMs
  rw [bMsN_len]; omega
theorem bMs_nodup (x : Sk) : ((bMs x).map Mach.id).Nodup := by
  unfold bMs bMsN
  rw [List.map_map]
  refine List.Pairwise.map _ (R := fun a b => a ≠ b) (fun a b hab e => hab ?_) List.nodup_range
  simp only [Function.comp, bMach] at e
  omega
theorem bShs_ok (S : List UInt8) (i n : Nat) (hn : n ≤ 200) : wrongS 0 0 (bShs S i n) = none := by
  refine wrongS_of (b := 0) fun j s hs => ?_
  obtain ⟨h1, h2⟩ := List.getElem?_eq_some_iff.1 hs
  rw [bShs_len] at h1
  have e : s = bSh S i j := by rw [← h2]; simp [bShs]
  subst e
  have hb := bT_bd S i j
  have h3 := nb_bd S (i + j + 2)
  refine ⟨by unfold bSh; dsimp only; omega, by unfold bSh; dsimp only; omega, fun _ => hb.1, fun s' hs' => ?_⟩
  obtain ⟨g1, g2⟩ := List.getElem?_eq_some_iff.1 hs'
  have e : s' = bSh S i (j + 1) := by rw [← g2]; simp [bShs]
  subst e
  have h4 := nb_bd S (i + j + 3)
  unfold bSh
  dsimp only
  rw [show bT S i (j + 1) = bT S i j + 1 + nb S (i + j + 2) % 12 + nb S (i + j + 3) % 5 from rfl]
  omega
theorem bCaps_ok (M : List UInt8) (i n : Nat) (hn : 1 ≤ n ∧ n ≤ 64) : Srt.capsOk (bCaps M i n) := by
  refine ⟨by rw [bCaps_len]; exact hn, fun c hc => ?_⟩
  obtain ⟨k, _, rfl⟩ := List.mem_map.1 hc
  have := nb_bd M (i + k + 4)
  omega
/-- A machine that built makes, at any rate. -/
theorem bMach_right (M S : List UInt8) (i : Nat) (hi : i < 3) {r : Int} (hr : 1 ≤ r ∧ r ≤ 1000) : rightM { bMach M S i with rate := r } := by
  have h3 := nb_bd M (i + 3)
  have h1 := nb_bd M (i + 1)
  have h4 := nb_bd S (i + 1)
  have hc := bCaps_ok M i (1 + nb M (i + 3) % 4).toNat (by omega)
  refine ⟨by unfold idOk bMach; dsimp only; omega, hr, ?_, ?_⟩
  · show (Srt.runF (bCaps M i (1 + nb M (i + 3) % 4).toNat) (nb M (i + 1) % 4) []).2 = 0
    rw [Srt.runF_ok hc (by omega) ⟨by simp, by simp, by simp⟩]
  · show (allowedF [] (bShs S i (2 + nb S (i + 1) % 4).toNat)).2 = 0
    unfold allowedF
    rw [if_neg (by rw [bShs_len]; simp; omega)]
    simp only [wrongJ]
    rw [bShs_ok _ _ _ (by omega)]
theorem bIs_nodup (x : Sk) : ((bIs x).map Item.id).Nodup := by
  unfold bIs bIsN
  rw [List.map_map]
  refine List.Pairwise.map _ (R := fun a b => a ≠ b) (fun a b hab e => hab ?_) List.nodup_range
  simp only [Function.comp, bItem] at e
  omega
theorem bIs_ok (x : Sk) : ∀ y ∈ bIs x, y.ok := fun y hy => by
  obtain ⟨k, hk, rfl⟩ := List.mem_map.1 hy
  have hk := List.mem_range.1 hk
  have : k < 40 := by omega
  have := (x.its.getD k 0).toNat_lt
  unfold Item.ok idOk bItem
  dsimp only
  omega
end Go.Sx.Plt
