/- A part of the proofs of this seat: a small logic of walks, plain laws, and what some of the program's functions compute, shown by walks through their code. Conditions: the hypotheses that each theorem names. -/
import Derived.Test.YtkhaemjoekfhiaaZPWrong3
import Derived.Test.YtkhaemjoekfhiaaZPWrong9
set_option linter.unusedSimpArgs false
set_option linter.unusedVariables false
set_option linter.unusedSectionVars false
namespace Go.Proofs.Ytkhaemjoekfhiaa
open Go Go.Sx Go.RowKit
attribute [local irreducible] WL WC WQ WR WB WF QB St Exit.then Exit.inBlock Exit.noGoto bodyPost roundPost beginK YR RG BM Calls B AgainD MeetD
/-! ## built -/
/-- What built leaves. -/
def builtφ (p : Plt.Plant) (v : Value) (N : List Ent) : Prop := ∃ am cm ai ci ap cp ds ys NM NI NP NX, v = .agg #[.slice am p.ms.length cm, .slice ai p.items.length ci, .slice ap p.passes.length cp] ∧
  (OW 61 5 encMD (.slice am p.ms.length cm) ds NM ∧ OW 38 3 encItem (.slice ai p.items.length ci) p.items NI ∧ OW 58 6 encPD (.slice ap p.passes.length cp) ys NP) ∧ (N = NM ++ (NI ++ (NP ++ NX)) ∧ ∀ x ∈ NX, x.own = true) ∧ (ds.length = p.ms.length ∧ ys.length = p.passes.length) ∧
  Shw NX (fun w => ∀ (i : Nat) (d : MD) (m : Plt.Mach), ds[i]? = some d → p.ms[i]? = some m → MachV w d m) ∧ Shw NX (fun w => ∀ (i : Nat) (d : PD) (y : Plt.Pass), ys[i]? = some d → p.passes[i]? = some y → PassV w d y)
set_option maxHeartbeats 16000000 in
set_option maxRecDepth 100000 in
theorem built_calls {v0 v1 v2 v3 : Value} {x : Plt.Sk} (w : World) (h0 : SV w 1 encB v0 x.ms) (h1 : SV w 1 encB v1 x.shs) (h2 : SV w 1 encB v2 x.its) (h3 : SV w 1 encB v3 x.ps) :
    Calls Try.prog 10 #[.agg #[v0, v1, v2, v3]] w fun e w' => ∃ v N, e = .returned v ∧ builtφ (Plt.built x) v N ∧ Rep w w' N ∧ ∀ x ∈ N, x.own = true := by
  obtain ⟨a0, c0, rfl, hc0, hop0⟩ := h0.open
  obtain ⟨a1, c1, rfl, hc1, hop1⟩ := h1.open
  obtain ⟨a2, c2, rfl, hc2, hop2⟩ := h2.open
  obtain ⟨a3, c3, rfl, hc3, hop3⟩ := h3.open
  have nb8 := fun (l : List UInt8) (i : Nat) => Plt.nb_bd l i
  have nb0 := nb8 x.ms 0
  refine f_enter1 Try.func10 rfl Try.ntmps10 rfl (Rep.start w) ?_
  repeat' (first | ((with_reducible first | apply o_move | apply o_assign | apply o_faddr0 | apply o_conv); exact rfl; exact rfl) | ((with_reducible apply o_alloc); exact rfl; intro _) | ((with_reducible apply o_box); exact rfl; exact rfl; exact rfl; intro _) | ((with_reducible first | apply c_seq | apply c_block | apply c_region | apply c_nil | apply c_ret | apply c_exit | apply c_skip)) | ((with_reducible first | apply e_then | apply e_then_ret | apply e_then_exit | apply e_in | apply e_in_ret | apply e_in_same)))
  rename_i b1 b2 b3
  apply c_loop (σ := Nat × (Option Addr × Nat) × List MD × List Ent × List Ent) (Fs := fun t => [(4, .int .i64 t.1), (3, ptr b3), (2, ptr b2), (1, ptr b1)])
    (Ls := fun t => ⟨b3, Ce [.slice t.2.1.1 t.2.2.1.length t.2.1.2, .slice none 0 0, .slice none 0 0] 29, true⟩ :: ⟨b2, Ce [.slice none 0 0, .slice none 0 0, .slice none 0 0] 29, true⟩ :: ⟨b1, Ce [.slice a0 x.ms.length c0, .slice a1 x.shs.length c1, .slice a2 x.its.length c2, .slice a3 x.ps.length c3] 24, true⟩ :: (t.2.2.2.1 ++ (t.2.2.2.2 ++ [])))
    (I := fun t => t.1 ≤ (1 + Plt.nb x.ms 0 % 3).toNat ∧ t.2.2.1.length = t.1 ∧ OW 61 5 encMD (.slice t.2.1.1 t.2.2.1.length t.2.1.2) t.2.2.1 t.2.2.2.1 ∧ (∀ e ∈ t.2.2.2.2, e.own = true) ∧ Shw t.2.2.2.2 (fun w => ∀ (i : Nat) (d : MD) (m : Plt.Mach), t.2.2.1[i]? = some d → (Plt.bMsN x.ms x.shs t.1)[i]? = some m → MachV w d m))
    (μ := fun t => (1 + Plt.nb x.ms 0 % 3).toNat - t.1) (s0 := (0, (none, 0), [], [], []))
  · exact ⟨Nat.zero_le _, rfl, OW.nil, by simp, fun _ _ _ _ _ _ i d m hd _ => by simp at hd⟩
  · exact fS_
  · exact hS_
  rintro ⟨i, ⟨am, cm⟩, ds, NM, NX⟩ ⟨hi, hdl, hOM, oX, hMX⟩
  dsimp only at hi hdl hOM oX hMX ⊢
  have oM := hOM.own
  by_cases hlt : i < (1 + Plt.nb x.ms 0 % 3).toNat
  · have nb1 := nb8 x.ms (i + 1)
    have nb2 := nb8 x.ms (i + 2)
    have nb3 := nb8 x.ms (i + 3)
    have nbs := nb8 x.shs i
    have nbs1 := nb8 x.shs (i + 1)
    repeat' (first | ((with_reducible apply c_cond_t); exact rfl; exact decide_eq_true (by omega)) | ((first | ((with_reducible apply o_call_pure (f := 23)); exact rfl) | ((with_reducible apply q_call_pure (f := 23)); exact rfl; kernel_rfl; exact rfl; exact sJ_)); exact eV_; exact (fun w hw => number_is (i := 0) (by omega) (by omega) rfl w (h0.keep hw (by exact aO_)))) | ((first | ((with_reducible apply o_call_pure (f := 23)); exact rfl) | ((with_reducible apply q_call_pure (f := 23)); exact rfl; kernel_rfl; exact rfl; exact sJ_)); exact eV_; exact (fun w hw => number_is (i := i + 1) (by omega) (by omega) rfl w (h0.keep hw (by exact aO_)))) | ((first | ((with_reducible apply o_call_pure (f := 23)); exact rfl) | ((with_reducible apply q_call_pure (f := 23)); exact rfl; kernel_rfl; exact rfl; exact sJ_)); exact eV_; exact (fun w hw => number_is (i := i + 2) (by omega) (by omega) rfl w (h0.keep hw (by exact aO_)))) | ((with_reducible first | apply o_move | apply o_assign | apply o_faddr0 | apply o_conv); exact rfl; exact rfl) | ((with_reducible apply gdo_load); first | refine wo_load (h := ?_) | refine wo_loadAll (h := ?_) | refine wo_loadC (h := ?_) | refine wo_ldV (h := ?_) | refine wo_ldF (h := ?_)) | ((with_reducible first | apply o_lss | apply o_eql | apply o_neq); exact rfl; exact rfl; exact rfl) | ((with_reducible first | apply o_add | apply o_sub | apply o_mul); exact rfl; exact rfl; exact rfl; (constructor <;> omega)) | ((with_reducible first | apply o_quo | apply o_rem); exact rfl; exact rfl; exact rfl; omega) | ((with_reducible first | apply c_seq | apply c_block | apply c_region | apply c_nil | apply c_ret | apply c_exit | apply c_skip)) | ((with_reducible first | apply e_then | apply e_then_ret | apply e_then_exit | apply e_in | apply e_in_ret | apply e_in_same)) | ((with_reducible apply c_regionD0 (id := 5) []); kernel_rfl; kernel_rfl) | ((with_reducible apply q_nil); try simp only [ents, List.cons_append, List.nil_append]) | ((with_reducible first | apply q_move | apply q_assign | apply q_faddr0); exact rfl; exact rfl) | ((with_reducible apply gdq_load); first | refine wq_load (h := ?_) | refine wq_loadAll (h := ?_) | refine wq_loadC (h := ?_) | refine wq_ldV (h := ?_) | refine wq_ldF (h := ?_)) | ((with_reducible first | apply q_add | apply q_sub | apply q_mul); exact rfl; exact rfl; exact rfl; (constructor <;> omega)) | ((with_reducible first | apply q_quo | apply q_rem); exact rfl; exact rfl; exact rfl; omega) | ((with_reducible apply gdq_build); first | refine wq_build (h := ?_)) | ((with_reducible apply gdq_store); first | refine wq_storeAE (h := ?_)) | ((with_reducible apply q_alloc); exact rfl; intro _))
    rename_i b5
    obtain ⟨nc, hnc⟩ : ∃ nc, (1 + Plt.nb x.ms (i + 3) % 4).toNat = nc := ⟨_, rfl⟩
    obtain ⟨ns, hns⟩ : ∃ ns, (2 + Plt.nb x.shs (i + 1) % 4).toNat = ns := ⟨_, rfl⟩
    obtain ⟨sw, hsw⟩ : ∃ sw, Plt.nb x.ms (i + 1) % 4 = sw := ⟨_, rfl⟩
    obtain ⟨ra, hra⟩ : ∃ ra, 1 + Plt.nb x.ms (i + 2) % 5 = ra := ⟨_, rfl⟩
    have hbm : Plt.bMach x.ms x.shs i = ⟨5 + i, sw, ra, Plt.bCaps x.ms i nc, Plt.bShs x.shs i ns⟩ := by unfold Plt.bMach; rw [hnc, hns, hsw, hra]
    rw [hsw, hra]
    apply c_loop (σ := Nat × (Option Addr × Nat) × List Ent) (Fs := fun t => [(6, .int .i64 t.1), (5, ptr b5), (4, .int .i64 i), (3, ptr b3), (2, ptr b2), (1, ptr b1)])
      (Ls := fun t => ⟨b5, Ce [.int .i64 (5 + i), .int .i64 sw, .int .i64 ra, .slice t.2.1.1 (Plt.bCaps x.ms i t.1).length t.2.1.2, .slice none 0 0] 61, true⟩ :: ⟨b3, Ce [.slice am ds.length cm, .slice none 0 0, .slice none 0 0] 29, true⟩ :: ⟨b2, Ce [.slice none 0 0, .slice none 0 0, .slice none 0 0] 29, true⟩ :: ⟨b1, Ce [.slice a0 x.ms.length c0, .slice a1 x.shs.length c1, .slice a2 x.its.length c2, .slice a3 x.ps.length c3] 24, true⟩ :: (t.2.2 ++ (NM ++ (NX ++ []))))
      (I := fun t => t.1 ≤ nc ∧ OW 3 1 encI (.slice t.2.1.1 (Plt.bCaps x.ms i t.1).length t.2.1.2) (Plt.bCaps x.ms i t.1) t.2.2) (μ := fun t => nc - t.1) (s0 := (0, (none, 0), []))
    · exact ⟨Nat.zero_le _, OW.nil⟩
    · exact fS_
    · exact hS_
    rintro ⟨k, ⟨ac, cc⟩, NC⟩ ⟨hk, hOC⟩
    dsimp only at hk hOC ⊢
    have oC := hOC.own
    have hcl := Plt.bCaps_len x.ms i k
    by_cases hlt2 : k < nc
    · have nb4 := nb8 x.ms (i + k + 4)
      have e1 := Plt.bCaps_succ x.ms i k
      as_aux_lemma =>
        repeat' (first | ((with_reducible apply c_cond_t); exact rfl; exact decide_eq_true (by omega)) | ((first | ((with_reducible apply o_call_pure (f := 23)); exact rfl) | ((with_reducible apply q_call_pure (f := 23)); exact rfl; kernel_rfl; exact rfl; exact sJ_)); exact eV_; exact (fun w hw => number_is (i := i + 3) (by omega) (by omega) rfl w (h0.keep hw (by exact aO_)))) | ((first | ((with_reducible apply o_call_pure (f := 23)); exact rfl) | ((with_reducible apply q_call_pure (f := 23)); exact rfl; kernel_rfl; exact rfl; exact sJ_)); exact eV_; exact (fun w hw => number_is (i := i + k + 4) (by omega) (by omega) rfl w (h0.keep hw (by exact aO_)))) | (apply o_appH (enc := encI) (ys := [(1 + Plt.nb x.ms (i + k + 4) % 12)]); infer_instance; infer_instance; infer_instance; exact rfl; exact encI_len; exact encI_one; exact rfl; exact rfl; exact rfl; assumption; exact rL_; (exact fun w hw => SV.lit [(1 + Plt.nb x.ms (i + k + 4) % 12)] encI_len hw (by exact aT_) rfl rfl (by decide)); (first | decide | (constructor <;> (try simp only [List.length_cons, List.length_nil]) <;> omega) | (constructor <;> simp <;> omega)); intro a_ cp_ N_ hO_; have oN_ := hO_.own; (try simp only [List.nil_append, List.append_assoc] at hO_); (try simp only [List.append_eq, List.append_assoc, List.cons_append, List.nil_append])) | ((with_reducible first | apply o_move | apply o_assign | apply o_faddr0 | apply o_conv); exact rfl; exact rfl) | ((with_reducible apply gdo_load); first | refine wo_load (h := ?_) | refine wo_loadAll (h := ?_) | refine wo_loadC (h := ?_) | refine wo_ldV (h := ?_) | refine wo_ldF (h := ?_)) | ((with_reducible first | apply o_lss | apply o_eql | apply o_neq); exact rfl; exact rfl; exact rfl) | ((with_reducible first | apply o_add | apply o_sub | apply o_mul); exact rfl; exact rfl; exact rfl; (constructor <;> omega)) | ((with_reducible first | apply o_quo | apply o_rem); exact rfl; exact rfl; exact rfl; omega) | ((with_reducible apply gdo_store); first | refine wo_store1 (h := ?_) | refine wo_storeA (h := ?_)) | ((with_reducible first | apply c_seq | apply c_block | apply c_region | apply c_nil | apply c_ret | apply c_exit | apply c_skip)) | ((with_reducible first | apply e_then | apply e_then_ret | apply e_then_exit | apply e_in | apply e_in_ret | apply e_in_same)) | ((with_reducible apply c_regionD (id := 9) [] 12); kernel_rfl; kernel_rfl; simp only [List.take_succ_cons, List.take_zero, List.drop_succ_cons, List.drop_zero]) | ((with_reducible apply q_nil); try simp only [ents, List.cons_append, List.nil_append]) | ((with_reducible first | apply q_move | apply q_assign | apply q_faddr0); exact rfl; exact rfl) | ((with_reducible apply gdq_load); first | refine wq_load (h := ?_) | refine wq_loadAll (h := ?_) | refine wq_loadC (h := ?_) | refine wq_ldV (h := ?_) | refine wq_ldF (h := ?_)) | ((with_reducible first | apply q_add | apply q_sub | apply q_mul); exact rfl; exact rfl; exact rfl; (constructor <;> omega)) | ((with_reducible first | apply q_quo | apply q_rem); exact rfl; exact rfl; exact rfl; omega) | ((with_reducible apply gdq_buildSlice); refine wq_buildSlice (h := fun _ => ?_)))
        rw [← e1] at hO_ ⊢
        refine l_again (k + 1, (a_, cp_), N_) ⟨by dsimp only; omega, hO_⟩ (by dsimp only; omega) ?_ ?_
        · exact fS_
        · exact hS_
    obtain rfl : k = nc := by omega
    rw [hcl]
    repeat' (first | ((with_reducible apply c_cond_f); exact rfl; exact decide_eq_false (by omega)) | ((first | ((with_reducible apply o_call_pure (f := 23)); exact rfl) | ((with_reducible apply q_call_pure (f := 23)); exact rfl; kernel_rfl; exact rfl; exact sJ_)); exact eV_; exact (fun w hw => number_is (i := i + 3) (by omega) (by omega) rfl w (h0.keep hw (by exact aO_)))) | ((first | ((with_reducible apply o_call_pure (f := 23)); exact rfl) | ((with_reducible apply q_call_pure (f := 23)); exact rfl; kernel_rfl; exact rfl; exact sJ_)); exact eV_; exact (fun w hw => number_is (i := i) (by omega) (by omega) rfl w (h1.keep hw (by exact aO_)))) | ((with_reducible first | apply o_move | apply o_assign | apply o_faddr0 | apply o_conv); exact rfl; exact rfl) | ((with_reducible apply gdo_load); first | refine wo_load (h := ?_) | refine wo_loadAll (h := ?_) | refine wo_loadC (h := ?_) | refine wo_ldV (h := ?_) | refine wo_ldF (h := ?_)) | ((with_reducible first | apply o_lss | apply o_eql | apply o_neq); exact rfl; exact rfl; exact rfl) | ((with_reducible first | apply o_add | apply o_sub | apply o_mul); exact rfl; exact rfl; exact rfl; (constructor <;> omega)) | ((with_reducible first | apply o_quo | apply o_rem); exact rfl; exact rfl; exact rfl; omega) | ((with_reducible first | apply c_seq | apply c_block | apply c_region | apply c_nil | apply c_ret | apply c_exit | apply c_skip)) | ((with_reducible first | apply e_then | apply e_then_ret | apply e_then_exit | apply e_in | apply e_in_ret | apply e_in_same)))
    apply c_loop (σ := Nat × (Option Addr × Nat) × List Ent) (Fs := fun t => [(8, .int .i64 t.1), (7, .int .i64 (Plt.bT x.shs i t.1)), (5, ptr b5), (4, .int .i64 i), (3, ptr b3), (2, ptr b2), (1, ptr b1)])
      (Ls := fun t => ⟨b5, Ce [.int .i64 (5 + i), .int .i64 sw, .int .i64 ra, .slice ac k cc, .slice t.2.1.1 (Plt.bShs x.shs i t.1).length t.2.1.2] 61, true⟩ :: ⟨b3, Ce [.slice am ds.length cm, .slice none 0 0, .slice none 0 0] 29, true⟩ :: ⟨b2, Ce [.slice none 0 0, .slice none 0 0, .slice none 0 0] 29, true⟩ :: ⟨b1, Ce [.slice a0 x.ms.length c0, .slice a1 x.shs.length c1, .slice a2 x.its.length c2, .slice a3 x.ps.length c3] 24, true⟩ :: (t.2.2 ++ (NC ++ (NM ++ (NX ++ [])))))
      (I := fun t => t.1 ≤ ns ∧ OW 70 2 encSh (.slice t.2.1.1 (Plt.bShs x.shs i t.1).length t.2.1.2) (Plt.bShs x.shs i t.1) t.2.2) (μ := fun t => ns - t.1) (s0 := (0, (none, 0), []))
    · exact ⟨Nat.zero_le _, OW.nil⟩
    · exact fS_
    · exact hS_
    rintro ⟨k', ⟨as_, cs_⟩, NS_⟩ ⟨hk', hOS⟩
    dsimp only at hk' hOS ⊢
    have oS := hOS.own
    have hsl := Plt.bShs_len x.shs i k'
    have htb := Plt.bT_bd x.shs i k'
    by_cases hlt3 : k' < ns
    · have nb5 := nb8 x.shs (i + k' + 2)
      have nb6 := nb8 x.shs (i + k' + 3)
      have e1 := Plt.bShs_succ x.shs i k'
      have e2 : Plt.bT x.shs i (k' + 1) = Plt.bT x.shs i k' + 1 + Plt.nb x.shs (i + k' + 2) % 12 + Plt.nb x.shs (i + k' + 3) % 5 := rfl
      unfold Plt.bSh at e1
      as_aux_lemma =>
        repeat' (first | ((with_reducible apply c_cond_t); exact rfl; exact decide_eq_true (by omega)) | ((first | ((with_reducible apply o_call_pure (f := 23)); exact rfl) | ((with_reducible apply q_call_pure (f := 23)); exact rfl; kernel_rfl; exact rfl; exact sJ_)); exact eV_; exact (fun w hw => number_is (i := i + 1) (by omega) (by omega) rfl w (h1.keep hw (by exact aO_)))) | ((first | ((with_reducible apply o_call_pure (f := 23)); exact rfl) | ((with_reducible apply q_call_pure (f := 23)); exact rfl; kernel_rfl; exact rfl; exact sJ_)); exact eV_; exact (fun w hw => number_is (i := i + k' + 2) (by omega) (by omega) rfl w (h1.keep hw (by exact aO_)))) | (apply o_appH (enc := encSh) (ys := [(⟨Plt.bT x.shs i k', Plt.bT x.shs i k' + 1 + Plt.nb x.shs (i + k' + 2) % 12⟩ : Plt.Sh)]); infer_instance; infer_instance; infer_instance; exact rfl; exact encSh_len; exact encSh_one; exact rfl; exact rfl; exact rfl; assumption; exact rL_; (exact fun w hw => SV.lit [(⟨Plt.bT x.shs i k', Plt.bT x.shs i k' + 1 + Plt.nb x.shs (i + k' + 2) % 12⟩ : Plt.Sh)] encSh_len hw (by exact aT_) rfl rfl (by decide)); (first | decide | (constructor <;> (try simp only [List.length_cons, List.length_nil]) <;> omega) | (constructor <;> simp <;> omega)); intro a_ cp_ N_ hO_; have oN_ := hO_.own; (try simp only [List.nil_append, List.append_assoc] at hO_); (try simp only [List.append_eq, List.append_assoc, List.cons_append, List.nil_append])) | ((with_reducible first | apply o_move | apply o_assign | apply o_faddr0 | apply o_conv); exact rfl; exact rfl) | ((with_reducible apply gdo_load); first | refine wo_load (h := ?_) | refine wo_loadAll (h := ?_) | refine wo_loadC (h := ?_) | refine wo_ldV (h := ?_) | refine wo_ldF (h := ?_)) | ((with_reducible first | apply o_lss | apply o_eql | apply o_neq); exact rfl; exact rfl; exact rfl) | ((with_reducible first | apply o_add | apply o_sub | apply o_mul); exact rfl; exact rfl; exact rfl; (constructor <;> omega)) | ((with_reducible first | apply o_quo | apply o_rem); exact rfl; exact rfl; exact rfl; omega) | ((with_reducible apply gdo_store); first | refine wo_store1 (h := ?_) | refine wo_storeA (h := ?_)) | ((with_reducible first | apply c_seq | apply c_block | apply c_region | apply c_nil | apply c_ret | apply c_exit | apply c_skip)) | ((with_reducible first | apply e_then | apply e_then_ret | apply e_then_exit | apply e_in | apply e_in_ret | apply e_in_same)) | ((with_reducible apply c_regionD (id := 14) [] 16); kernel_rfl; kernel_rfl; simp only [List.take_succ_cons, List.take_zero, List.drop_succ_cons, List.drop_zero]) | ((with_reducible apply q_nil); try simp only [ents, List.cons_append, List.nil_append]) | ((with_reducible first | apply q_move | apply q_assign | apply q_faddr0); exact rfl; exact rfl) | ((with_reducible apply gdq_load); first | refine wq_load (h := ?_) | refine wq_loadAll (h := ?_) | refine wq_loadC (h := ?_) | refine wq_ldV (h := ?_) | refine wq_ldF (h := ?_)) | ((with_reducible first | apply q_add | apply q_sub | apply q_mul); exact rfl; exact rfl; exact rfl; (constructor <;> omega)) | ((with_reducible first | apply q_quo | apply q_rem); exact rfl; exact rfl; exact rfl; omega) | ((with_reducible apply gdq_build); first | refine wq_build (h := ?_)) | ((with_reducible apply gdq_buildSlice); refine wq_buildSlice (h := fun _ => ?_)))
        rw [← e1] at hO_ ⊢
        obtain ⟨b', s', rfl, rfl⟩ := OW.some hO_ (by rw [Plt.bShs_len]; omega)
        simp only [List.cons_append, List.nil_append]
        have hx : (Plt.bShs x.shs i (k' + 1))[k']? = some ⟨Plt.bT x.shs i k', Plt.bT x.shs i k' + 1 + Plt.nb x.shs (i + k' + 2) % 12⟩ := by rw [e1, List.getElem?_append_right (by omega)]; simp [hsl]
        have q1 : ∀ (j : Nat) (u : Value), ([.int .i64 (Plt.bT x.shs i k'), .int .i64 (Plt.bT x.shs i k' + 1 + Plt.nb x.shs (i + k' + 2) % 12)] : List Value)[j]? = some u → ((Plt.bShs x.shs i (k' + 1)).flatMap encSh ++ s').toArray[0 + k' * 2 + j]? = some u := (Pat.flat encSh_len _ s').get hx
        have hsl1 := Plt.bShs_len x.shs i (k' + 1)
        repeat' (first | ((first | ((with_reducible apply o_call_pure (f := 23)); exact rfl) | ((with_reducible apply q_call_pure (f := 23)); exact rfl; kernel_rfl; exact rfl; exact sJ_)); exact eV_; exact (fun w hw => number_is (i := i + k' + 3) (by omega) (by omega) rfl w (h1.keep hw (by exact aO_)))) | ((with_reducible first | apply o_move | apply o_assign | apply o_faddr0 | apply o_conv); exact rfl; exact rfl) | ((with_reducible first | apply o_add | apply o_sub | apply o_mul); exact rfl; exact rfl; exact rfl; (constructor <;> omega)) | ((with_reducible first | apply c_seq | apply c_block | apply c_region | apply c_nil | apply c_ret | apply c_exit | apply c_skip)) | ((with_reducible first | apply e_then | apply e_then_ret | apply e_then_exit | apply e_in | apply e_in_ret | apply e_in_same)) | ((with_reducible apply c_regionD0 (id := 15) []); kernel_rfl; kernel_rfl) | ((with_reducible apply q_nil); try simp only [ents, List.cons_append, List.nil_append]) | ((with_reducible first | apply q_move | apply q_assign | apply q_faddr0); exact rfl; exact rfl) | ((with_reducible apply q_faddr); exact rfl; exact rfl) | ((with_reducible apply gdq_load); first | refine wq_load (h := ?_) | refine wq_loadAll (h := ?_) | refine wq_loadC (h := ?_) | refine wq_ldV (h := ?_) | refine wq_ldF (h := ?_)) | ((with_reducible first | apply q_add | apply q_sub | apply q_mul); exact rfl; exact rfl; exact rfl; (constructor <;> omega)) | ((with_reducible first | apply q_quo | apply q_rem); exact rfl; exact rfl; exact rfl; omega) | ((with_reducible apply q_idx); infer_instance; infer_instance; exact rfl; exact rfl; (first | exact rfl | omega); exact rfl; (first | assumption | omega | decide)))
        refine l_again (k' + 1, (_, cp_), _) ⟨by dsimp only; omega, hO_⟩ (by dsimp only; omega) ?_ ?_
        · (try dsimp only); rw [e2]; exact fS_
        · simp only [List.cons_append, List.nil_append]; exact hS_
    obtain rfl : k' = ns := by omega
    rw [hsl]
    have hnx : Shw (NC ++ (NS_ ++ NX)) (fun w => ∀ (j : Nat) (d : MD) (m : Plt.Mach), (ds ++ [(⟨5 + i, sw, ra, (ac, k, cc), (as_, k', cs_)⟩ : MD)])[j]? = some d → (Plt.bMsN x.ms x.shs (i + 1))[j]? = some m → MachV w d m) := by
      rw [Plt.bMsN_succ, hbm]
      intro w0 w1 L L0 hr hw j d m hd hm
      have hml := Plt.bMsN_len x.ms x.shs i
      by_cases hj : j < ds.length
      · rw [List.getElem?_append_left hj] at hd
        rw [List.getElem?_append_left (by omega)] at hm
        exact (Shw.right (Shw.right hMX)) w0 w1 L L0 hr hw j d m hd hm
      · have : j = ds.length := by
          have h := (List.getElem?_eq_some_iff.1 hd).1
          rw [List.length_append, List.length_singleton] at h
          omega
        subst this
        rw [List.getElem?_append_right (Nat.le_refl _), Nat.sub_self] at hd
        rw [List.getElem?_append_right (by omega), hdl, hml, Nat.sub_self] at hm
        cases hd; cases hm
        rw [hcl] at hOC
        rw [hsl] at hOS
        exact ⟨rfl, rfl, rfl, (Shw.left (Shw.ow encI_len hOC)) w0 w1 L L0 hr hw, (Shw.right (Shw.left (Shw.ow encSh_len hOS))) w0 w1 L L0 hr hw⟩
    as_aux_lemma =>
      repeat' (first | ((with_reducible apply c_cond_f); exact rfl; exact decide_eq_false (by omega)) | ((first | ((with_reducible apply o_call_pure (f := 23)); exact rfl) | ((with_reducible apply q_call_pure (f := 23)); exact rfl; kernel_rfl; exact rfl; exact sJ_)); exact eV_; exact (fun w hw => number_is (i := i + 1) (by omega) (by omega) rfl w (h1.keep hw (by exact aO_)))) | (apply o_appH (enc := encMD) (ys := [(⟨5 + i, sw, ra, (ac, k, cc), (as_, k', cs_)⟩ : MD)]); infer_instance; infer_instance; infer_instance; exact rfl; exact encMD_len; exact encMD_one; exact rfl; exact rfl; exact rfl; assumption; exact rL_; (exact fun w hw => SV.lit [(⟨5 + i, sw, ra, (ac, k, cc), (as_, k', cs_)⟩ : MD)] encMD_len hw (by exact aT_) rfl rfl (by decide)); (first | decide | (constructor <;> (try simp only [List.length_cons, List.length_nil]) <;> omega) | (constructor <;> simp <;> omega)); intro a_ cp_ N_ hO_; have oN_ := hO_.own; (try simp only [List.nil_append, List.append_assoc] at hO_); (try simp only [List.append_eq, List.append_assoc, List.cons_append, List.nil_append])) | ((with_reducible first | apply o_move | apply o_assign | apply o_faddr0 | apply o_conv); exact rfl; exact rfl) | ((with_reducible apply gdo_load); first | refine wo_load (h := ?_) | refine wo_loadAll (h := ?_) | refine wo_loadC (h := ?_) | refine wo_ldV (h := ?_) | refine wo_ldF (h := ?_)) | ((with_reducible first | apply o_lss | apply o_eql | apply o_neq); exact rfl; exact rfl; exact rfl) | ((with_reducible first | apply o_add | apply o_sub | apply o_mul); exact rfl; exact rfl; exact rfl; (constructor <;> omega)) | ((with_reducible first | apply o_quo | apply o_rem); exact rfl; exact rfl; exact rfl; omega) | ((with_reducible apply gdo_store); first | refine wo_store1 (h := ?_) | refine wo_storeA (h := ?_)) | ((with_reducible apply gdo_buildSlice); refine wo_buildSlice (h := fun _ => ?_)) | ((with_reducible first | apply c_seq | apply c_block | apply c_region | apply c_nil | apply c_ret | apply c_exit | apply c_skip)) | ((with_reducible first | apply e_then | apply e_then_ret | apply e_then_exit | apply e_in | apply e_in_ret | apply e_in_same)))
      refine l_again (i + 1, (a_, cp_), ds ++ [(⟨5 + i, sw, ra, (ac, k, cc), (as_, k', cs_)⟩ : MD)], N_, NC ++ (NS_ ++ NX)) ⟨by dsimp only; omega, by simp [hdl], hO_, own_app oC (own_app oS oX), hnx⟩ (by dsimp only; omega) ?_ ?_
      · exact fS_
      · simp only [List.append_assoc]; exact hS_
  obtain rfl : i = (1 + Plt.nb x.ms 0 % 3).toNat := by omega
  have hms : Plt.bMsN x.ms x.shs (1 + Plt.nb x.ms 0 % 3).toNat = Plt.bMs x := rfl
  have hml : (Plt.bMs x).length = (1 + Plt.nb x.ms 0 % 3).toNat := Plt.bMsN_len _ _ _
  rw [hms] at hMX
  have hml3 : 1 ≤ (Plt.bMs x).length ∧ (Plt.bMs x).length ≤ 3 := by omega
  rw [← hml] at hdl
  repeat' (first | ((with_reducible apply c_cond_f); exact rfl; exact decide_eq_false (by omega)) | ((first | ((with_reducible apply o_call_pure (f := 23)); exact rfl) | ((with_reducible apply q_call_pure (f := 23)); exact rfl; kernel_rfl; exact rfl; exact sJ_)); exact eV_; exact (fun w hw => number_is (i := 0) (by omega) (by omega) rfl w (h0.keep hw (by exact aO_)))) | ((with_reducible first | apply o_move | apply o_assign | apply o_faddr0 | apply o_conv); exact rfl; exact rfl) | ((with_reducible apply gdo_load); first | refine wo_load (h := ?_) | refine wo_loadAll (h := ?_) | refine wo_loadC (h := ?_) | refine wo_ldV (h := ?_) | refine wo_ldF (h := ?_)) | ((with_reducible first | apply o_lss | apply o_eql | apply o_neq); exact rfl; exact rfl; exact rfl) | ((with_reducible first | apply o_add | apply o_sub | apply o_mul); exact rfl; exact rfl; exact rfl; (constructor <;> omega)) | ((with_reducible first | apply o_quo | apply o_rem); exact rfl; exact rfl; exact rfl; omega) | ((with_reducible first | apply c_seq | apply c_region | apply c_nil | apply c_ret | apply c_exit | apply c_skip)) | ((with_reducible first | apply e_then | apply e_then_ret | apply e_then_exit | apply e_in | apply e_in_ret | apply e_in_same)))
  clear hlt hi
  apply c_post (σ := (Option Addr × Nat) × List Ent) (Ds := fun _ => []) (Fs := fun _ => [(3, ptr b3), (2, ptr b2), (1, ptr b1)])
    (Ls := fun t => ⟨b3, Ce [.slice am ds.length cm, .slice t.1.1 (Plt.bIs x).length t.1.2, .slice none 0 0] 29, true⟩ :: ⟨b2, Ce [.slice none 0 0, .slice none 0 0, .slice none 0 0] 29, true⟩ :: ⟨b1, Ce [.slice a0 x.ms.length c0, .slice a1 x.shs.length c1, .slice a2 x.its.length c2, .slice a3 x.ps.length c3] 24, true⟩ :: (t.2 ++ (NM ++ (NX ++ []))))
    (I := fun t => OW 38 3 encItem (.slice t.1.1 (Plt.bIs x).length t.1.2) (Plt.bIs x) t.2)
  · as_aux_lemma =>
    repeat' (first | ((with_reducible first | apply c_seq | apply c_block | apply c_region | apply c_nil | apply c_ret | apply c_exit | apply c_skip)))
    apply c_loop (σ := Nat × (Option Addr × Nat) × List Ent) (Fs := fun t => [(9, .int .i64 t.1), (3, ptr b3), (2, ptr b2), (1, ptr b1)])
      (Ls := fun t => ⟨b3, Ce [.slice am ds.length cm, .slice t.2.1.1 (Plt.bIsN x.its t.1).length t.2.1.2, .slice none 0 0] 29, true⟩ :: ⟨b2, Ce [.slice none 0 0, .slice none 0 0, .slice none 0 0] 29, true⟩ :: ⟨b1, Ce [.slice a0 x.ms.length c0, .slice a1 x.shs.length c1, .slice a2 x.its.length c2, .slice a3 x.ps.length c3] 24, true⟩ :: (t.2.2 ++ (NM ++ (NX ++ []))))
      (I := fun t => t.1 ≤ min x.its.length 40 ∧ OW 38 3 encItem (.slice t.2.1.1 (Plt.bIsN x.its t.1).length t.2.1.2) (Plt.bIsN x.its t.1) t.2.2) (μ := fun t => min x.its.length 40 - t.1) (s0 := (0, (none, 0), []))
    · exact ⟨Nat.zero_le _, OW.nil⟩
    · exact fS_
    · exact hS_
    rintro ⟨i, ⟨ai, ci⟩, NI⟩ ⟨hi, hOI⟩
    dsimp only at hi hOI ⊢
    have oI := hOI.own
    have hil := Plt.bIsN_len x.its i
    by_cases hlt : i < min x.its.length 40
    · obtain ⟨y, hx⟩ : ∃ y, x.its[i]? = some y := ⟨_, List.getElem?_eq_getElem (by omega)⟩
      obtain ⟨b, off, cx, e, fz, rfl, hk, hp⟩ := hop2 (by omega)
      have g1 : cx[off + i * 1]? = some (.int .u8 (y.toNat : Int)) := hp.one hx rfl
      have hy8 := y.toNat_lt
      have hgd : x.its.getD i 0 = y := by simp [List.getD_eq_getElem?_getD, hx]
      have e1 := Plt.bIsN_succ x.its i
      unfold Plt.bItem at e1
      rw [hgd] at e1
      as_aux_lemma =>
        repeat' (first | ((with_reducible apply c_cond_t); exact rfl; exact decide_eq_true (by omega)) | ((with_reducible apply o_pick_t); exact rfl; exact decide_eq_true (by omega); exact rfl; exact rfl) | ((with_reducible apply g_run); exact rfl; exact decide_eq_true (by omega)) | ((with_reducible apply q_conv8); infer_instance; infer_instance; exact rfl; exact rfl; exact sJ_; (constructor <;> omega); exact rfl) | (apply o_appH (enc := encItem) (ys := [(⟨100 - 2 * i, (y.toNat : Int) % 9, 1 + (y.toNat : Int) / 9 % 3⟩ : Plt.Item)]); infer_instance; infer_instance; infer_instance; exact rfl; exact encItem_len; exact encItem_one; exact rfl; exact rfl; exact rfl; assumption; exact rL_; (exact fun w hw => SV.lit [(⟨100 - 2 * i, (y.toNat : Int) % 9, 1 + (y.toNat : Int) / 9 % 3⟩ : Plt.Item)] encItem_len hw (by exact aT_) rfl rfl (by decide)); (first | decide | (constructor <;> (try simp only [List.length_cons, List.length_nil]) <;> omega) | (constructor <;> simp <;> omega)); intro a_ cp_ N_ hO_; have oN_ := hO_.own; (try simp only [List.nil_append, List.append_assoc] at hO_); (try simp only [List.append_eq, List.append_assoc, List.cons_append, List.nil_append])) | ((with_reducible first | apply o_move | apply o_assign | apply o_faddr0 | apply o_conv); exact rfl; exact rfl) | ((with_reducible apply gdo_load); first | refine wo_load (h := ?_) | refine wo_loadAll (h := ?_) | refine wo_loadC (h := ?_) | refine wo_ldV (h := ?_) | refine wo_ldF (h := ?_)) | ((with_reducible first | apply o_lss | apply o_eql | apply o_neq); exact rfl; exact rfl; exact rfl) | ((with_reducible first | apply o_add | apply o_sub | apply o_mul); exact rfl; exact rfl; exact rfl; (constructor <;> omega)) | ((with_reducible apply gdo_store); first | refine wo_store1 (h := ?_) | refine wo_storeA (h := ?_)) | ((with_reducible apply o_len); infer_instance; exact rfl; exact rfl) | ((with_reducible first | apply c_seq | apply c_block | apply c_region | apply c_nil | apply c_ret | apply c_exit | apply c_skip)) | ((with_reducible first | apply e_then | apply e_then_ret | apply e_then_exit | apply e_in | apply e_in_ret | apply e_in_same)) | ((with_reducible apply c_regionD (id := 20) [] 23); kernel_rfl; kernel_rfl; simp only [List.take_succ_cons, List.take_zero, List.drop_succ_cons, List.drop_zero]) | ((with_reducible apply q_nil); try simp only [ents, List.cons_append, List.nil_append]) | ((with_reducible first | apply q_move | apply q_assign | apply q_faddr0); exact rfl; exact rfl) | ((with_reducible apply gdq_load); first | refine wq_load (h := ?_) | refine wq_loadAll (h := ?_) | refine wq_loadC (h := ?_) | refine wq_ldV (h := ?_) | refine wq_ldF (h := ?_)) | ((with_reducible first | apply q_add | apply q_sub | apply q_mul); exact rfl; exact rfl; exact rfl; (constructor <;> omega)) | ((with_reducible first | apply q_quo | apply q_rem); exact rfl; exact rfl; exact rfl; omega) | ((with_reducible apply gdq_build); first | refine wq_build (h := ?_)) | ((with_reducible apply q_idx); infer_instance; infer_instance; exact rfl; exact rfl; (first | exact rfl | omega); exact rfl; (first | assumption | omega | decide)) | ((with_reducible apply gdq_buildSlice); refine wq_buildSlice (h := fun _ => ?_)))
        rw [← e1] at hO_ ⊢
        refine l_again (i + 1, (a_, cp_), N_) ⟨by dsimp only; omega, hO_⟩ (by dsimp only; omega) ?_ ?_
        · exact fS_
        · exact hS_
    obtain rfl : i = min x.its.length 40 := by omega
    repeat' (first | ((with_reducible apply c_cond_f); exact rfl; exact decide_eq_false (by omega)) | ((with_reducible apply o_pick_t); exact rfl; exact decide_eq_true (by omega); exact rfl; exact rfl) | ((with_reducible apply o_pick_f); exact rfl; exact decide_eq_false (by omega); exact rfl; exact rfl) | ((with_reducible apply g_run); exact rfl; exact decide_eq_true (by omega)) | ((with_reducible apply g_skip); exact rfl; exact decide_eq_false (by omega); exact rfl) | ((with_reducible first | apply o_move | apply o_assign | apply o_faddr0 | apply o_conv); exact rfl; exact rfl) | ((with_reducible apply gdo_load); first | refine wo_load (h := ?_) | refine wo_loadAll (h := ?_) | refine wo_loadC (h := ?_) | refine wo_ldV (h := ?_) | refine wo_ldF (h := ?_)) | ((with_reducible first | apply o_lss | apply o_eql | apply o_neq); exact rfl; exact rfl; exact rfl) | ((with_reducible apply o_len); infer_instance; exact rfl; exact rfl) | ((with_reducible first | apply c_seq | apply c_block | apply c_region | apply c_nil | apply c_ret | apply c_exit | apply c_skip)) | ((with_reducible apply c_cond_f); exact rfl; exact fF_) | ((with_reducible first | apply e_then | apply e_then_ret | apply e_then_exit | apply e_in | apply e_in_ret | apply e_in_same)) | ((with_reducible apply g_split_d); exact rfl; intro hcond; rotate_left; intro hcond; rotate_left))
    all_goals
      refine l_meetD ((ai, ci), NI) hOI rfl ?_ ?_
      · exact fS_
      · exact hS_
  rintro ⟨⟨ai, ci⟩, NI⟩ hOI
  dsimp only at hOI ⊢
  have oI := hOI.own
  have hitl : (Plt.bIs x).length ≤ 40 := by unfold Plt.bIs; rw [Plt.bIsN_len]; omega
  generalize hI : Plt.bIs x = its at *
  generalize hM : Plt.bMs x = ms at *
  repeat' (first | ((with_reducible first | apply o_move | apply o_assign | apply o_faddr0 | apply o_conv); exact rfl; exact rfl) | ((with_reducible first | apply c_seq | apply c_block | apply c_region | apply c_nil | apply c_ret | apply c_exit | apply c_skip)) | ((with_reducible first | apply e_then | apply e_then_ret | apply e_then_exit | apply e_in | apply e_in_ret | apply e_in_same)))
  apply c_loop (σ := Nat × ((Option Addr × Nat) × List Ent) × ((Option Addr × Nat) × List PD × List Ent) × List Ent) (Fs := fun t => [(11, .int .i64 t.1), (10, .slice t.2.1.1.1 (Plt.bAt ms its x.ps t.1).1.length t.2.1.1.2), (3, ptr b3), (2, ptr b2), (1, ptr b1)])
    (Ls := fun t => ⟨b3, Ce [.slice am ds.length cm, .slice ai its.length ci, .slice t.2.2.1.1.1 t.2.2.1.2.1.length t.2.2.1.1.2] 29, true⟩ :: ⟨b2, Ce [.slice none 0 0, .slice none 0 0, .slice none 0 0] 29, true⟩ :: ⟨b1, Ce [.slice a0 x.ms.length c0, .slice a1 x.shs.length c1, .slice a2 x.its.length c2, .slice a3 x.ps.length c3] 24, true⟩ :: (t.2.1.2 ++ (t.2.2.1.2.2 ++ (t.2.2.2 ++ (NI ++ (NM ++ (NX ++ [])))))))
    (I := fun t => (t.1 ≤ min x.ps.length 6 ∧ (Plt.bAt ms its x.ps t.1).1.length ≤ 5 * t.1) ∧ OW 64 2 encSrc (.slice t.2.1.1.1 (Plt.bAt ms its x.ps t.1).1.length t.2.1.1.2) (Plt.bAt ms its x.ps t.1).1 t.2.1.2 ∧ t.2.2.1.2.1.length = t.1 ∧ OW 58 6 encPD (.slice t.2.2.1.1.1 t.2.2.1.2.1.length t.2.2.1.1.2) t.2.2.1.2.1 t.2.2.1.2.2 ∧ (∀ e ∈ t.2.2.2, e.own = true) ∧
      Shw t.2.2.2 (fun w => ∀ (j : Nat) (d : PD) (y : Plt.Pass), t.2.2.1.2.1[j]? = some d → (Plt.bAt ms its x.ps t.1).2[j]? = some y → PassV w d y))
    (μ := fun t => min x.ps.length 6 - t.1) (s0 := (0, ((none, 0), []), ((none, 0), [], []), []))
  · exact ⟨⟨Nat.zero_le _, Nat.zero_le _⟩, OW.nil, rfl, OW.nil, by simp, fun _ _ _ _ _ _ j d y hd _ => by simp at hd⟩
  · exact fS_
  · exact hS_
  rintro ⟨i, ⟨⟨al, cl⟩, NL⟩, ⟨⟨ap, cp⟩, ys, NP⟩, NY⟩ ⟨⟨hi, hlb⟩, hOL, hyl, hOP, oY, hPY⟩
  dsimp only at hi hlb hOL hyl hOP oY hPY ⊢
  have oL := hOL.own
  have oP := hOP.own
  by_cases hlt : i < min x.ps.length 6
  · obtain ⟨y8, hx⟩ : ∃ y, x.ps[i]? = some y := ⟨_, List.getElem?_eq_getElem (by omega)⟩
    obtain ⟨b, off, cx, e, fz, rfl, hk, hp⟩ := hop3 (by omega)
    have g1 : cx[off + i * 1]? = some (.int .u8 (y8.toNat : Int)) := hp.one hx rfl
    have hy8 := y8.toNat_lt
    have hgd : x.ps.getD i 0 = y8 := by simp [List.getD_eq_getElem?_getD, hx]
    have hnext1 : (Plt.bAt ms its x.ps (i + 1)).1 = Plt.bNext ms y8.toNat i (Plt.bAt ms its x.ps i).1 := by rw [Plt.bAt, hgd]
    have hnext2 : (Plt.bAt ms its x.ps (i + 1)).2 = (Plt.bAt ms its x.ps i).2 ++ [Plt.bPass ms its y8.toNat i (Plt.bAt ms its x.ps i).1] := by rw [Plt.bAt, hgd]
    have hpsl := Plt.bAt_len ms its x.ps i
    generalize (Plt.bAt ms its x.ps i).2 = pss at hPY hnext2 hpsl
    generalize (Plt.bAt ms its x.ps i).1 = left at hOL hlb hnext1 hnext2 ⊢
    generalize y8.toNat = n at *
    clear hgd
    obtain ⟨j, hj⟩ : ∃ j, n % ms.length = j := ⟨_, rfl⟩
    have hjl : j < ms.length := by rw [← hj]; exact Nat.mod_lt _ (by omega)
    have hji : (n : Int) % (ms.length : Int) = (j : Int) := by omega
    obtain ⟨m, hm⟩ : ∃ m, ms[j]? = some m := ⟨_, List.getElem?_eq_getElem hjl⟩
    obtain ⟨d, hd⟩ : ∃ d, ds[j]? = some d := ⟨_, List.getElem?_eq_getElem (by omega)⟩
    have hmd : Plt.bMd ms n = m := by unfold Plt.bMd; rw [hj]; simp [List.getD_eq_getElem?_getD, hm]
    have hcm : m.caps.length ≤ 4 ∧ 1 ≤ m.caps.length := by
      have := Plt.bMs_caps (x := x) (m := m) (by rw [hM]; exact List.mem_of_getElem? hm)
      omega
    refine st_know (fun w' hw' => (hMX _ _ _ _ (by exact rL_) hw' j d m hd hm).eqs) ?_
    rintro ⟨x1, k1, x2, k2, rfl⟩
    obtain ⟨bM, sM, rfl, rfl⟩ := OW.some hOM (by omega)
    have q1 : ∀ (j' : Nat) (u : Value), ([.int .i64 m.id, .int .i64 m.sweeps, .int .i64 m.rate, .slice x1 m.caps.length k1, .slice x2 m.shifts.length k2] : List Value)[j']? = some u → (ds.flatMap encMD ++ sM).toArray[0 + j * 5 + j']? = some u := (Pat.flat encMD_len ds sM).get hd
    simp only [List.cons_append, List.nil_append]
    obtain ⟨c, hc⟩ : ∃ c, m.caps.length = c := ⟨_, rfl⟩
    have hbp : Plt.bPass ms its n i left = ⟨20 - i, m.id, (n : Int) / 8 % 16, (Plt.bPick n 0 [] [] (Plt.bLeft i left)).1, Plt.bTab n c 8, Plt.bUn its n i its.length⟩ := by unfold Plt.bPass; rw [hmd, hc]
    have hbn : Plt.bNext ms n i left = (Plt.bPick n 0 [] [] (Plt.bLeft i left)).2 ++ Plt.bSrcs (20 - i) c := by unfold Plt.bNext; rw [hmd, hc]
    rw [hc] at hcm q1
    rw [hbp] at hnext2
    rw [hbn] at hnext1
    generalize m.id = mid at *
    generalize m.sweeps = msw at *
    generalize m.rate = mra at *
    generalize m.shifts.length = msl at *
    clear hbp hbn hmd
    repeat' (first | ((with_reducible apply c_cond_t); exact rfl; exact decide_eq_true (by omega)) | ((with_reducible apply o_pick_t); exact rfl; exact decide_eq_true (by omega); exact rfl; exact rfl) | ((with_reducible apply g_run); exact rfl; exact decide_eq_true (by omega)) | ((with_reducible apply o_conv8); infer_instance; infer_instance; exact rfl; (constructor <;> omega); exact rfl) | ((with_reducible first | apply o_move | apply o_assign | apply o_faddr0 | apply o_conv); exact rfl; exact rfl) | ((with_reducible apply gdo_load); first | refine wo_load (h := ?_) | refine wo_loadAll (h := ?_) | refine wo_loadC (h := ?_) | refine wo_ldV (h := ?_) | refine wo_ldF (h := ?_)) | ((with_reducible first | apply o_lss | apply o_eql | apply o_neq); exact rfl; exact rfl; exact rfl) | ((with_reducible apply o_len); infer_instance; exact rfl; exact rfl) | ((with_reducible apply o_idx); infer_instance; infer_instance; exact rfl; exact rfl; (first | exact rfl | omega); exact rfl; (first | assumption | omega | decide)) | ((with_reducible first | apply c_seq | apply c_block | apply c_region | apply c_nil | apply c_ret | apply c_exit | apply c_skip)) | ((with_reducible first | apply e_then | apply e_then_ret | apply e_then_exit | apply e_in | apply e_in_ret | apply e_in_same)))
    repeat' (first | ((with_reducible apply q_remE (v := (j : Int))); exact rfl; exact rfl; (rw [hdl]; exact hji); omega; exact rfl) | ((with_reducible first | apply o_move | apply o_assign | apply o_faddr0 | apply o_conv); exact rfl; exact rfl) | ((with_reducible apply gdo_load); first | refine wo_load (h := ?_) | refine wo_loadAll (h := ?_) | refine wo_loadC (h := ?_) | refine wo_ldV (h := ?_) | refine wo_ldF (h := ?_)) | ((with_reducible first | apply o_lss | apply o_eql | apply o_neq); exact rfl; exact rfl; exact rfl) | ((with_reducible first | apply o_add | apply o_sub | apply o_mul); exact rfl; exact rfl; exact rfl; (constructor <;> omega)) | ((with_reducible first | apply o_quo | apply o_rem); exact rfl; exact rfl; exact rfl; omega) | ((with_reducible apply o_alloc); exact rfl; intro _) | ((with_reducible apply gdo_store); first | refine wo_store1 (h := ?_) | refine wo_storeA (h := ?_)) | ((with_reducible apply gdo_build); first | refine wo_build (h := ?_)) | ((with_reducible first | apply c_seq | apply c_block | apply c_region | apply c_nil | apply c_ret | apply c_exit | apply c_skip)) | ((with_reducible first | apply e_then | apply e_then_ret | apply e_then_exit | apply e_in | apply e_in_ret | apply e_in_same)) | ((with_reducible apply c_regionD0 (id := 26) []); kernel_rfl; kernel_rfl) | ((with_reducible apply q_nil); try simp only [ents, List.cons_append, List.nil_append]) | ((with_reducible first | apply q_move | apply q_assign | apply q_faddr0); exact rfl; exact rfl) | ((with_reducible apply gdq_load); first | refine wq_load (h := ?_) | refine wq_loadAll (h := ?_) | refine wq_loadC (h := ?_) | refine wq_ldV (h := ?_) | refine wq_ldF (h := ?_)) | ((with_reducible apply gdq_call_len); first | refine wq_len (h := ?_)) | ((with_reducible apply q_idx); infer_instance; infer_instance; exact rfl; exact rfl; (first | exact rfl | omega); exact rfl; (first | assumption | omega | decide)) | ((with_reducible apply gdq_store); first | refine wq_storeAE (h := ?_)) | ((with_reducible apply q_alloc); exact rfl; intro _))
    rename_i b13 b14
    obtain ⟨rel, hrel⟩ : ∃ rel, (n : Int) / 8 % 16 = rel := ⟨_, rfl⟩
    rw [hrel] at hnext2 ⊢
    clear hrel hji hj g1 hx hp
    apply c_post (σ := (Option Addr × Nat) × List Ent) (Ds := fun _ => []) (Fs := fun t => [(10, .slice t.1.1 (Plt.bLeft i left).length t.1.2), (14, ptr b14), (13, ptr b13), (12, .int .i64 n), (11, .int .i64 i), (3, ptr b3), (2, ptr b2), (1, ptr b1)])
      (Ls := fun t => ⟨b14, Ce [.int .i64 (20 - i), .int .i64 mid, .int .i64 rel, .slice none 0 0, .slice none 0 0, .slice none 0 0] 58, true⟩ :: ⟨b13, Ce [.int .i64 mid, .int .i64 msw, .int .i64 mra, .slice x1 c k1, .slice x2 msl k2] 61, true⟩ :: ⟨b3, Ce [.slice (some ⟨bM, 0, none⟩) ds.length cm, .slice ai its.length ci, .slice ap ys.length cp] 29, true⟩ :: ⟨b2, Ce [.slice none 0 0, .slice none 0 0, .slice none 0 0] 29, true⟩ :: ⟨b1, Ce [.slice a0 x.ms.length c0, .slice a1 x.shs.length c1, .slice a2 x.its.length c2, .slice (some ⟨b, off, none⟩) x.ps.length c3] 24, true⟩ :: (t.2 ++ (NP ++ (NY ++ (NI ++ (⟨bM, Ce (ds.flatMap encMD ++ sM) 61, true⟩ :: (NX ++ [])))))))
      (I := fun t => OW 64 2 encSrc (.slice t.1.1 (Plt.bLeft i left).length t.1.2) (Plt.bLeft i left) t.2)
    · as_aux_lemma =>
      unfold Plt.bLeft
      by_cases hi3 : i < 3
      · rw [if_pos hi3]
        repeat' (first | ((with_reducible apply c_cond_t); exact rfl; exact decide_eq_true (by omega)) | (apply o_appH (enc := encSrc) (ys := [(((0 : Int), (i : Int) + 1))]); infer_instance; infer_instance; infer_instance; exact rfl; exact encSrc_len; exact encSrc_one; exact rfl; exact rfl; exact rfl; assumption; exact rL_; (exact fun w hw => SV.lit [(((0 : Int), (i : Int) + 1))] encSrc_len hw (by exact aT_) rfl rfl (by decide)); (first | decide | (constructor <;> (try simp only [List.length_cons, List.length_nil]) <;> omega) | (constructor <;> simp <;> omega)); intro a_ cp_ N_ hO_; have oN_ := hO_.own; (try simp only [List.nil_append, List.append_assoc] at hO_); (try simp only [List.append_eq, List.append_assoc, List.cons_append, List.nil_append])) | ((with_reducible first | apply o_move | apply o_assign | apply o_faddr0 | apply o_conv); exact rfl; exact rfl) | ((with_reducible first | apply o_add | apply o_sub | apply o_mul); exact rfl; exact rfl; exact rfl; (constructor <;> omega)) | ((with_reducible apply gdo_build); first | refine wo_build (h := ?_)) | ((with_reducible apply gdo_buildSlice); refine wo_buildSlice (h := fun _ => ?_)) | ((with_reducible first | apply c_seq | apply c_block | apply c_region | apply c_nil | apply c_ret | apply c_exit | apply c_skip)) | ((with_reducible first | apply e_then | apply e_then_ret | apply e_then_exit | apply e_in | apply e_in_ret | apply e_in_same)))
        refine l_meetD ((a_, cp_), N_) hO_ rfl ?_ ?_
        · exact fS_
        · exact hS_
      · rw [if_neg hi3]
        repeat' (first | ((with_reducible apply c_cond_f); exact rfl; exact decide_eq_false (by omega)) | ((with_reducible first | apply c_seq | apply c_block | apply c_region | apply c_nil | apply c_ret | apply c_exit | apply c_skip)) | ((with_reducible first | apply e_then | apply e_then_ret | apply e_then_exit | apply e_in | apply e_in_ret | apply e_in_same)))
        refine l_meetD ((al, cl), NL) hOL rfl ?_ ?_
        · exact fS_
        · exact hS_
    clear hOL oL
    rintro ⟨⟨al, cl⟩, NL⟩ hOL
    dsimp only at hOL ⊢
    have oL := hOL.own
    have hl2 : (Plt.bLeft i left).length ≤ 31 := by unfold Plt.bLeft; split <;> (try simp only [List.length_append, List.length_singleton]) <;> omega
    have hl3 : (Plt.bPick n 0 [] [] (Plt.bLeft i left)).2.length ≤ (Plt.bLeft i left).length := by
      have := Plt.bPick_len n (Plt.bLeft i left) 0 [] []
      simp at this; omega
    have hl4 : (Plt.bLeft i left).length ≤ 5 * i + 1 := by unfold Plt.bLeft; split <;> (try simp only [List.length_append, List.length_singleton]) <;> omega
    generalize Plt.bLeft i left = left2 at *
    repeat' (first | ((with_reducible first | apply o_move | apply o_assign | apply o_faddr0 | apply o_conv); exact rfl; exact rfl) | ((with_reducible apply o_len); infer_instance; exact rfl; exact rfl) | ((with_reducible first | apply c_seq | apply c_block | apply c_region | apply c_nil | apply c_ret | apply c_exit | apply c_skip)) | ((with_reducible first | apply e_then | apply e_then_ret | apply e_then_exit | apply e_in | apply e_in_ret | apply e_in_same)))
    apply c_loop (σ := Nat × (List (Int × Int) × (Option Addr × Nat) × List Ent) × (List (Int × Int) × (Option Addr × Nat) × List Ent)) (Fs := fun t => [(206, .int .i64 t.1), (205, .int .i64 left2.length), (204, .slice al left2.length cl), (15, .slice t.2.2.2.1.1 t.2.2.1.length t.2.2.2.1.2), (14, ptr b14), (13, ptr b13), (12, .int .i64 n), (11, .int .i64 i), (3, ptr b3), (2, ptr b2), (1, ptr b1)])
      (Ls := fun t => ⟨b14, Ce [.int .i64 (20 - i), .int .i64 mid, .int .i64 rel, .slice t.2.1.2.1.1 t.2.1.1.length t.2.1.2.1.2, .slice none 0 0, .slice none 0 0] 58, true⟩ :: ⟨b13, Ce [.int .i64 mid, .int .i64 msw, .int .i64 mra, .slice x1 c k1, .slice x2 msl k2] 61, true⟩ :: ⟨b3, Ce [.slice (some ⟨bM, 0, none⟩) ds.length cm, .slice ai its.length ci, .slice ap ys.length cp] 29, true⟩ :: ⟨b2, Ce [.slice none 0 0, .slice none 0 0, .slice none 0 0] 29, true⟩ :: ⟨b1, Ce [.slice a0 x.ms.length c0, .slice a1 x.shs.length c1, .slice a2 x.its.length c2, .slice (some ⟨b, off, none⟩) x.ps.length c3] 24, true⟩ :: (NL ++ (t.2.1.2.2 ++ (t.2.2.2.2 ++ (NP ++ (NY ++ (NI ++ (⟨bM, Ce (ds.flatMap encMD ++ sM) 61, true⟩ :: (NX ++ [])))))))))
      (I := fun t => (t.1 ≤ left2.length ∧ t.2.1.1.length + t.2.2.1.length = t.1) ∧ Plt.bPick n 0 [] [] left2 = Plt.bPick n t.1 t.2.1.1 t.2.2.1 (left2.drop t.1) ∧ OW 64 2 encSrc (.slice t.2.1.2.1.1 t.2.1.1.length t.2.1.2.1.2) t.2.1.1 t.2.1.2.2 ∧ OW 64 2 encSrc (.slice t.2.2.2.1.1 t.2.2.1.length t.2.2.2.1.2) t.2.2.1 t.2.2.2.2)
      (μ := fun t => left2.length - t.1) (s0 := (0, ([], (none, 0), []), ([], (none, 0), [])))
    · exact ⟨⟨Nat.zero_le _, rfl⟩, rfl, OW.nil, OW.nil⟩
    · exact fS_
    · exact hS_
    rintro ⟨k, ⟨fr, ⟨af, cf⟩, NF⟩, ⟨re, ⟨ar, cr⟩, NR⟩⟩ ⟨⟨hk, hfl⟩, hbp, hOF, hOR⟩
    dsimp only at hk hfl hbp hOF hOR ⊢
    have oF := hOF.own
    have oR := hOR.own
    by_cases hlt2 : k < left2.length
    · obtain ⟨⟨s1, s2⟩, hx⟩ : ∃ y, left2[k]? = some y := ⟨_, List.getElem?_eq_getElem hlt2⟩
      obtain ⟨bL, sL, rfl, rfl⟩ := OW.some hOL (by omega)
      have q2 : ∀ (j' : Nat) (u : Value), ([.int .i64 s1, .int .i64 s2] : List Value)[j']? = some u → (left2.flatMap encSrc ++ sL).toArray[0 + k * 2 + j']? = some u := (Pat.flat encSrc_len left2 sL).get hx
      rw [Plt.bPick_some hx] at hbp
      obtain ⟨sh, hsh⟩ : ∃ sh, (n : Int) / 2 ^ (k % 5) = sh := ⟨_, rfl⟩
      have hsh0 : 0 ≤ sh ∧ sh ≤ 255 := by
        rw [← hsh]
        exact ⟨Int.ediv_nonneg (by omega) (Int.le_of_lt (Int.pow_pos (by decide))), Int.le_trans (Int.ediv_le_self _ (by omega)) (by omega)⟩
      rw [hsh] at hbp
      have hsh2 : (n : Int) / 2 ^ ((k % 5 : Nat) : Int).toNat = sh := by rw [Int.toNat_natCast]; exact hsh
      simp only [List.cons_append, List.nil_append]
      by_cases hcc : (sh % 2 = 1 ∨ k = 0) ∧ fr.length < 5
      · rw [if_pos hcc] at hbp
        as_aux_lemma =>
          repeat' (first | ((with_reducible apply c_cond_t); exact rfl; exact decide_eq_true (by omega)) | ((with_reducible apply o_pick_t); exact rfl; exact decide_eq_true (by omega); exact rfl; exact rfl) | ((with_reducible apply o_pick_f); exact rfl; exact decide_eq_false (by omega); exact rfl; exact rfl) | ((with_reducible apply g_run); exact rfl; exact decide_eq_true (by omega)) | ((with_reducible apply g_run); exact rfl; exact decide_eq_false (by omega)) | ((with_reducible apply g_skip); exact rfl; exact decide_eq_true (by omega); exact rfl) | ((with_reducible apply o_remE (v := ((k % 5 : Nat) : Int))); exact rfl; exact rfl; omega; omega; exact rfl) | ((with_reducible apply o_shrE (v := sh)); exact rfl; exact rfl; exact hsh2; omega; exact rfl) | ((with_reducible apply o_andE (v := sh % 2)); exact rfl; exact rfl; exact rfl; omega; exact rfl) | (apply o_appH (enc := encSrc) (ys := [((s1, s2))]); infer_instance; infer_instance; infer_instance; exact rfl; exact encSrc_len; exact encSrc_one; exact rfl; exact rfl; exact rfl; assumption; exact rL_; (exact fun w hw => SV.lit [((s1, s2))] encSrc_len hw (by exact aT_) rfl rfl (by decide)); (first | decide | (constructor <;> (try simp only [List.length_cons, List.length_nil]) <;> omega) | (constructor <;> simp <;> omega)); intro a_ cp_ N_ hO_; have oN_ := hO_.own; (try simp only [List.nil_append, List.append_assoc] at hO_); (try simp only [List.append_eq, List.append_assoc, List.cons_append, List.nil_append])) | ((with_reducible first | apply o_move | apply o_assign | apply o_faddr0 | apply o_conv); exact rfl; exact rfl) | ((with_reducible apply gdo_load); first | refine wo_load (h := ?_) | refine wo_loadAll (h := ?_) | refine wo_loadC (h := ?_) | refine wo_ldV (h := ?_) | refine wo_ldF (h := ?_)) | ((with_reducible first | apply o_lss | apply o_eql | apply o_neq); exact rfl; exact rfl; exact rfl) | ((with_reducible first | apply o_add | apply o_sub | apply o_mul); exact rfl; exact rfl; exact rfl; (constructor <;> omega)) | ((with_reducible apply o_pick_t); exact rfl; exact tT_; exact rfl; exact rfl) | ((with_reducible apply o_alloc); exact rfl; intro _) | ((with_reducible apply gdo_store); first | refine wo_store1 (h := ?_) | refine wo_storeA (h := ?_)) | ((with_reducible apply o_len); infer_instance; exact rfl; exact rfl) | ((with_reducible apply gdo_buildSlice); refine wo_buildSlice (h := fun _ => ?_)) | ((with_reducible apply o_idx); infer_instance; infer_instance; exact rfl; exact rfl; (first | exact rfl | omega); exact rfl; (first | assumption | omega | decide)) | ((with_reducible first | apply g_run); exact rfl; exact gG_) | ((with_reducible first | apply c_seq | apply c_block | apply c_region | apply c_nil | apply c_ret | apply c_exit | apply c_skip)) | ((with_reducible first | apply e_then | apply e_then_ret | apply e_then_exit | apply e_in | apply e_in_ret | apply e_in_same)) | ((with_reducible apply g_split_d); exact rfl; intro hcond; rotate_left; intro hcond; rotate_left))
          all_goals try (exfalso; omega)
          all_goals
            refine l_again (k + 1, (fr ++ [(s1, s2)], (a_, cp_), N_), (re, (ar, cr), NR)) ⟨⟨by dsimp only; omega, show (fr ++ [(s1, s2)]).length + re.length = k + 1 from by rw [List.length_append, List.length_singleton]; omega⟩, hbp, hO_, hOR⟩ (by dsimp only; omega) ?_ ?_
            · exact fS_
            · (try simp only [List.cons_append, List.nil_append]); exact hS_
      · rw [if_neg hcc] at hbp
        as_aux_lemma =>
          repeat' (first | ((with_reducible apply c_cond_t); exact rfl; exact decide_eq_true (by omega)) | ((with_reducible apply c_cond_f); exact rfl; exact decide_eq_false (by omega)) | ((with_reducible apply o_pick_t); exact rfl; exact decide_eq_true (by omega); exact rfl; exact rfl) | ((with_reducible apply o_pick_f); exact rfl; exact decide_eq_false (by omega); exact rfl; exact rfl) | ((with_reducible apply g_skip); exact rfl; exact decide_eq_false (by omega); exact rfl) | ((with_reducible apply g_run); exact rfl; exact decide_eq_false (by omega)) | ((with_reducible apply g_skip); exact rfl; exact decide_eq_true (by omega); exact rfl) | ((with_reducible apply o_remE (v := ((k % 5 : Nat) : Int))); exact rfl; exact rfl; omega; omega; exact rfl) | ((with_reducible apply o_shrE (v := sh)); exact rfl; exact rfl; exact hsh2; omega; exact rfl) | ((with_reducible apply o_andE (v := sh % 2)); exact rfl; exact rfl; exact rfl; omega; exact rfl) | (apply o_appH (enc := encSrc) (ys := [((s1, s2))]); infer_instance; infer_instance; infer_instance; exact rfl; exact encSrc_len; exact encSrc_one; exact rfl; exact rfl; exact rfl; assumption; exact rL_; (exact fun w hw => SV.lit [((s1, s2))] encSrc_len hw (by exact aT_) rfl rfl (by decide)); (first | decide | (constructor <;> (try simp only [List.length_cons, List.length_nil]) <;> omega) | (constructor <;> simp <;> omega)); intro a_ cp_ N_ hO_; have oN_ := hO_.own; (try simp only [List.nil_append, List.append_assoc] at hO_); (try simp only [List.append_eq, List.append_assoc, List.cons_append, List.nil_append])) | ((with_reducible first | apply o_move | apply o_assign | apply o_faddr0 | apply o_conv); exact rfl; exact rfl) | ((with_reducible apply gdo_load); first | refine wo_load (h := ?_) | refine wo_loadAll (h := ?_) | refine wo_loadC (h := ?_) | refine wo_ldV (h := ?_) | refine wo_ldF (h := ?_)) | ((with_reducible first | apply o_lss | apply o_eql | apply o_neq); exact rfl; exact rfl; exact rfl) | ((with_reducible first | apply o_add | apply o_sub | apply o_mul); exact rfl; exact rfl; exact rfl; (constructor <;> omega)) | ((with_reducible apply o_pick_t); exact rfl; exact tT_; exact rfl; exact rfl) | ((with_reducible apply o_alloc); exact rfl; intro _) | ((with_reducible apply gdo_store); first | refine wo_store1 (h := ?_) | refine wo_storeA (h := ?_)) | ((with_reducible apply o_len); infer_instance; exact rfl; exact rfl) | ((with_reducible apply gdo_buildSlice); refine wo_buildSlice (h := fun _ => ?_)) | ((with_reducible apply o_idx); infer_instance; infer_instance; exact rfl; exact rfl; (first | exact rfl | omega); exact rfl; (first | assumption | omega | decide)) | ((with_reducible first | apply g_run); exact rfl; exact gG_) | ((with_reducible first | apply c_seq | apply c_block | apply c_region | apply c_nil | apply c_ret | apply c_exit | apply c_skip)) | ((with_reducible apply c_cond_f); exact rfl; exact fF_) | ((with_reducible first | apply e_then | apply e_then_ret | apply e_then_exit | apply e_in | apply e_in_ret | apply e_in_same)) | ((with_reducible apply g_split_d); exact rfl; intro hcond; rotate_left; intro hcond; rotate_left))
          all_goals try (exfalso; omega)
          all_goals
            refine l_again (k + 1, (fr, (af, cf), NF), (re ++ [(s1, s2)], (a_, cp_), N_)) ⟨⟨by dsimp only; omega, show fr.length + (re ++ [(s1, s2)]).length = k + 1 from by rw [List.length_append, List.length_singleton]; omega⟩, hbp, hOF, hO_⟩ (by dsimp only; omega) ?_ ?_
            · exact fS_
            · (try simp only [List.cons_append, List.nil_append]); exact hS_
    obtain rfl : k = left2.length := by omega
    rw [List.drop_length, Plt.bPick] at hbp
    rw [hbp] at hnext1 hnext2 hl3
    dsimp only at hnext1 hnext2 hl3
    clear hbp hOL
    have hrl : re.length ≤ 5 * i + 1 := by omega
    repeat' (first | ((with_reducible apply c_cond_f); exact rfl; exact decide_eq_false (by omega)) | ((with_reducible first | apply o_move | apply o_assign | apply o_faddr0 | apply o_conv); exact rfl; exact rfl) | ((with_reducible first | apply o_lss | apply o_eql | apply o_neq); exact rfl; exact rfl; exact rfl) | ((with_reducible first | apply c_seq | apply c_block | apply c_region | apply c_nil | apply c_ret | apply c_exit | apply c_skip)) | ((with_reducible first | apply e_then | apply e_then_ret | apply e_then_exit | apply e_in | apply e_in_ret | apply e_in_same)))
    apply c_loop (σ := Nat × (Option Addr × Nat) × List Ent) (Fs := fun t => [(18, .int .i64 t.1), (10, .slice ar re.length cr), (14, ptr b14), (13, ptr b13), (12, .int .i64 n), (11, .int .i64 i), (3, ptr b3), (2, ptr b2), (1, ptr b1)])
      (Ls := fun t => ⟨b14, Ce [.int .i64 (20 - i), .int .i64 mid, .int .i64 rel, .slice af fr.length cf, .slice t.2.1.1 (Plt.bTab n c t.1).length t.2.1.2, .slice none 0 0] 58, true⟩ :: ⟨b13, Ce [.int .i64 mid, .int .i64 msw, .int .i64 mra, .slice x1 c k1, .slice x2 msl k2] 61, true⟩ :: ⟨b3, Ce [.slice (some ⟨bM, 0, none⟩) ds.length cm, .slice ai its.length ci, .slice ap ys.length cp] 29, true⟩ :: ⟨b2, Ce [.slice none 0 0, .slice none 0 0, .slice none 0 0] 29, true⟩ :: ⟨b1, Ce [.slice a0 x.ms.length c0, .slice a1 x.shs.length c1, .slice a2 x.its.length c2, .slice (some ⟨b, off, none⟩) x.ps.length c3] 24, true⟩ :: (t.2.2 ++ (NF ++ (NR ++ (NP ++ (NY ++ (NI ++ (⟨bM, Ce (ds.flatMap encMD ++ sM) 61, true⟩ :: (NX ++ [])))))))))
      (I := fun t => (t.1 ≤ 8 ∧ (Plt.bTab n c t.1).length ≤ t.1) ∧ OW 76 2 encRow (.slice t.2.1.1 (Plt.bTab n c t.1).length t.2.1.2) (Plt.bTab n c t.1) t.2.2) (μ := fun t => 8 - t.1) (s0 := (0, (none, 0), []))
    · exact ⟨⟨Nat.zero_le _, Nat.le_refl _⟩, OW.nil⟩
    · exact fS_
    · exact hS_
    rintro ⟨k, ⟨at_, ct⟩, NT⟩ ⟨⟨hk, htl⟩, hOT⟩
    dsimp only at hk htl hOT ⊢
    have oT := hOT.own
    by_cases hlt2 : k < 8
    · have e1 := Plt.bTab_succ n c k
      by_cases hkn : k ≠ n % 16
      · rw [if_pos hkn] at e1
        have hrem : ((n : Int) + (k : Int)) % (c : Int) = (((n + k) % c : Nat) : Int) := by rw [Int.natCast_emod, Int.natCast_add]
        have htl2 : (Plt.bTab n c (k + 1)).length ≤ k + 1 := by rw [e1, List.length_append, List.length_singleton]; omega
        generalize (n + k) % c = z at *
        as_aux_lemma =>
          repeat' (first | ((with_reducible apply c_cond_t); exact rfl; exact decide_eq_true (by omega)) | ((with_reducible apply q_remE (v := (z : Int))); exact rfl; exact rfl; exact hrem; omega; exact rfl) | (apply o_appH (enc := encRow) (ys := [(⟨k, (z : Int)⟩ : Plt.Row)]); infer_instance; infer_instance; infer_instance; exact rfl; exact encRow_len; exact encRow_one; exact rfl; exact rfl; exact rfl; assumption; exact rL_; (exact fun w hw => SV.lit [(⟨k, (z : Int)⟩ : Plt.Row)] encRow_len hw (by exact aT_) rfl rfl (by decide)); (first | decide | (constructor <;> (try simp only [List.length_cons, List.length_nil]) <;> omega) | (constructor <;> simp <;> omega)); intro a_ cp_ N_ hO_; have oN_ := hO_.own; (try simp only [List.nil_append, List.append_assoc] at hO_); (try simp only [List.append_eq, List.append_assoc, List.cons_append, List.nil_append])) | ((with_reducible first | apply o_move | apply o_assign | apply o_faddr0 | apply o_conv); exact rfl; exact rfl) | ((with_reducible first | apply o_lss | apply o_eql | apply o_neq); exact rfl; exact rfl; exact rfl) | ((with_reducible first | apply o_add | apply o_sub | apply o_mul); exact rfl; exact rfl; exact rfl; (constructor <;> omega)) | ((with_reducible first | apply o_quo | apply o_rem); exact rfl; exact rfl; exact rfl; omega) | ((with_reducible apply gdo_store); first | refine wo_store1 (h := ?_) | refine wo_storeA (h := ?_)) | ((with_reducible first | apply c_seq | apply c_block | apply c_region | apply c_nil | apply c_ret | apply c_exit | apply c_skip)) | ((with_reducible first | apply e_then | apply e_then_ret | apply e_then_exit | apply e_in | apply e_in_ret | apply e_in_same)) | ((with_reducible apply c_regionD (id := 43) [] 12); kernel_rfl; kernel_rfl; simp only [List.take_succ_cons, List.take_zero, List.drop_succ_cons, List.drop_zero]) | ((with_reducible apply q_nil); try simp only [ents, List.cons_append, List.nil_append]) | ((with_reducible first | apply q_move | apply q_assign | apply q_faddr0); exact rfl; exact rfl) | ((with_reducible apply gdq_load); first | refine wq_load (h := ?_) | refine wq_loadAll (h := ?_) | refine wq_loadC (h := ?_) | refine wq_ldV (h := ?_) | refine wq_ldF (h := ?_)) | ((with_reducible first | apply q_add | apply q_sub | apply q_mul); exact rfl; exact rfl; exact rfl; (constructor <;> omega)) | ((with_reducible apply gdq_build); first | refine wq_build (h := ?_)) | ((with_reducible apply gdq_call_len); first | refine wq_len (h := ?_)) | ((with_reducible apply gdq_buildSlice); refine wq_buildSlice (h := fun _ => ?_)))
          rw [← e1] at hO_ ⊢
          refine l_again (k + 1, (a_, cp_), N_) ⟨⟨by dsimp only; omega, htl2⟩, hO_⟩ (by dsimp only; omega) ?_ ?_
          · exact fS_
          · exact hS_
      · rw [if_neg hkn, List.append_nil] at e1
        as_aux_lemma =>
          repeat' (first | ((with_reducible apply c_cond_t); exact rfl; exact decide_eq_true (by omega)) | ((with_reducible apply c_cond_f); exact rfl; exact decide_eq_false (by omega)) | ((with_reducible first | apply o_move | apply o_assign | apply o_faddr0 | apply o_conv); exact rfl; exact rfl) | ((with_reducible first | apply o_lss | apply o_eql | apply o_neq); exact rfl; exact rfl; exact rfl) | ((with_reducible first | apply o_add | apply o_sub | apply o_mul); exact rfl; exact rfl; exact rfl; (constructor <;> omega)) | ((with_reducible first | apply o_quo | apply o_rem); exact rfl; exact rfl; exact rfl; omega) | ((with_reducible first | apply c_seq | apply c_block | apply c_region | apply c_nil | apply c_ret | apply c_exit | apply c_skip)) | ((with_reducible first | apply e_then | apply e_then_ret | apply e_then_exit | apply e_in | apply e_in_ret | apply e_in_same)))
          refine l_again (k + 1, (at_, ct), NT) ⟨⟨by dsimp only; omega, by dsimp only; rw [e1]; omega⟩, by dsimp only; rw [e1]; exact hOT⟩ (by dsimp only; omega) ?_ ?_
          · exact fS_
          · (try dsimp only); rw [e1]; exact hS_
    obtain rfl : k = 8 := by omega
    repeat' (first | ((with_reducible apply c_cond_f); exact rfl; exact decide_eq_false (by omega)) | ((with_reducible first | apply o_move | apply o_assign | apply o_faddr0 | apply o_conv); exact rfl; exact rfl) | ((with_reducible apply gdo_load); first | refine wo_load (h := ?_) | refine wo_loadAll (h := ?_) | refine wo_loadC (h := ?_) | refine wo_ldV (h := ?_) | refine wo_ldF (h := ?_)) | ((with_reducible first | apply o_lss | apply o_eql | apply o_neq); exact rfl; exact rfl; exact rfl) | ((with_reducible apply o_len); infer_instance; exact rfl; exact rfl) | ((with_reducible first | apply c_seq | apply c_block | apply c_region | apply c_nil | apply c_ret | apply c_exit | apply c_skip)) | ((with_reducible first | apply e_then | apply e_then_ret | apply e_then_exit | apply e_in | apply e_in_ret | apply e_in_same)))
    apply c_loop (σ := Nat × (Option Addr × Nat) × List Ent) (Fs := fun t => [(264, .int .i64 t.1), (263, .int .i64 its.length), (10, .slice ar re.length cr), (14, ptr b14), (13, ptr b13), (12, .int .i64 n), (11, .int .i64 i), (3, ptr b3), (2, ptr b2), (1, ptr b1)])
      (Ls := fun t => ⟨b14, Ce [.int .i64 (20 - i), .int .i64 mid, .int .i64 rel, .slice af fr.length cf, .slice at_ (Plt.bTab n c 8).length ct, .slice t.2.1.1 (Plt.bUn its n i t.1).length t.2.1.2] 58, true⟩ :: ⟨b13, Ce [.int .i64 mid, .int .i64 msw, .int .i64 mra, .slice x1 c k1, .slice x2 msl k2] 61, true⟩ :: ⟨b3, Ce [.slice (some ⟨bM, 0, none⟩) ds.length cm, .slice ai its.length ci, .slice ap ys.length cp] 29, true⟩ :: ⟨b2, Ce [.slice none 0 0, .slice none 0 0, .slice none 0 0] 29, true⟩ :: ⟨b1, Ce [.slice a0 x.ms.length c0, .slice a1 x.shs.length c1, .slice a2 x.its.length c2, .slice (some ⟨b, off, none⟩) x.ps.length c3] 24, true⟩ :: (t.2.2 ++ (NT ++ (NF ++ (NR ++ (NP ++ (NY ++ (NI ++ (⟨bM, Ce (ds.flatMap encMD ++ sM) 61, true⟩ :: (NX ++ []))))))))))
      (I := fun t => (t.1 ≤ its.length ∧ (Plt.bUn its n i t.1).length ≤ t.1) ∧ OW 3 1 encI (.slice t.2.1.1 (Plt.bUn its n i t.1).length t.2.1.2) (Plt.bUn its n i t.1) t.2.2) (μ := fun t => its.length - t.1) (s0 := (0, (none, 0), []))
    · exact ⟨⟨Nat.zero_le _, Nat.le_refl _⟩, OW.nil⟩
    · exact fS_
    · exact hS_
    rintro ⟨k, ⟨au, cu⟩, NU⟩ ⟨⟨hk2, hul⟩, hOU⟩
    dsimp only at hk2 hul hOU ⊢
    have oU := hOU.own
    by_cases hlt3 : k < its.length
    · have e1 := Plt.bUn_succ its n i k
      have hkn : k * n ≤ 40 * 255 := Nat.mul_le_mul (by omega) (by omega)
      have hkn2 : (k : Int) * (n : Int) = ((k * n : Nat) : Int) := by rw [Int.natCast_mul]
      generalize k * n = kn at *
      by_cases hc10 : (kn + i) % 11 = 10
      · rw [if_pos hc10] at e1
        obtain ⟨⟨xi, xs, xb⟩, hx⟩ : ∃ y, its[k]? = some y := ⟨_, List.getElem?_eq_getElem hlt3⟩
        rw [show (its.getD k ⟨0, 0, 0⟩).id = xi from by simp [List.getD_eq_getElem?_getD, hx]] at e1
        have hul2 : (Plt.bUn its n i (k + 1)).length ≤ k + 1 := by rw [e1, List.length_append, List.length_singleton]; omega
        obtain ⟨bI, sI, rfl, rfl⟩ := OW.some hOI (by omega)
        have q2 : ∀ (j' : Nat) (u : Value), ([.int .i64 xi, .int .i64 xs, .int .i64 xb] : List Value)[j']? = some u → (its.flatMap encItem ++ sI).toArray[0 + k * 3 + j']? = some u := (Pat.flat encItem_len its sI).get hx
        simp only [List.cons_append, List.nil_append]
        as_aux_lemma =>
          repeat' (first | ((with_reducible apply c_cond_t); exact rfl; exact decide_eq_true (by omega)) | ((with_reducible apply o_mulE (v := (kn : Int))); exact rfl; exact rfl; exact hkn2; omega; exact rfl) | (apply o_appH (enc := encI) (ys := [(xi)]); infer_instance; infer_instance; infer_instance; exact rfl; exact encI_len; exact encI_one; exact rfl; exact rfl; exact rfl; assumption; exact rL_; (exact fun w hw => SV.lit [(xi)] encI_len hw (by exact aT_) rfl rfl (by decide)); (first | decide | (constructor <;> (try simp only [List.length_cons, List.length_nil]) <;> omega) | (constructor <;> simp <;> omega)); intro a_ cp_ N_ hO_; have oN_ := hO_.own; (try simp only [List.nil_append, List.append_assoc] at hO_); (try simp only [List.append_eq, List.append_assoc, List.cons_append, List.nil_append])) | ((with_reducible first | apply o_move | apply o_assign | apply o_faddr0 | apply o_conv); exact rfl; exact rfl) | ((with_reducible first | apply o_lss | apply o_eql | apply o_neq); exact rfl; exact rfl; exact rfl) | ((with_reducible first | apply o_add | apply o_sub | apply o_mul); exact rfl; exact rfl; exact rfl; (constructor <;> omega)) | ((with_reducible first | apply o_quo | apply o_rem); exact rfl; exact rfl; exact rfl; omega) | ((with_reducible apply gdo_store); first | refine wo_store1 (h := ?_) | refine wo_storeA (h := ?_)) | ((with_reducible first | apply c_seq | apply c_block | apply c_region | apply c_nil | apply c_ret | apply c_exit | apply c_skip)) | ((with_reducible first | apply e_then | apply e_then_ret | apply e_then_exit | apply e_in | apply e_in_ret | apply e_in_same)) | ((with_reducible apply c_regionD (id := 48) [] 9); kernel_rfl; kernel_rfl; simp only [List.take_succ_cons, List.take_zero, List.drop_succ_cons, List.drop_zero]) | ((with_reducible apply q_nil); try simp only [ents, List.cons_append, List.nil_append]) | ((with_reducible first | apply q_move | apply q_assign | apply q_faddr0); exact rfl; exact rfl) | ((with_reducible apply q_faddr); exact rfl; exact rfl) | ((with_reducible apply gdq_load); first | refine wq_load (h := ?_) | refine wq_loadAll (h := ?_) | refine wq_loadC (h := ?_) | refine wq_ldV (h := ?_) | refine wq_ldF (h := ?_)) | ((with_reducible apply q_idx); infer_instance; infer_instance; exact rfl; exact rfl; (first | exact rfl | omega); exact rfl; (first | assumption | omega | decide)) | ((with_reducible apply gdq_buildSlice); refine wq_buildSlice (h := fun _ => ?_)))
          rw [← e1] at hO_ ⊢
          refine l_again (k + 1, (a_, cp_), N_) ⟨⟨by dsimp only; omega, hul2⟩, hO_⟩ (by dsimp only; omega) ?_ ?_
          · exact fS_
          · (try simp only [List.cons_append, List.nil_append]); exact hS_
      · rw [if_neg hc10, List.append_nil] at e1
        as_aux_lemma =>
          repeat' (first | ((with_reducible apply c_cond_t); exact rfl; exact decide_eq_true (by omega)) | ((with_reducible apply c_cond_f); exact rfl; exact decide_eq_false (by omega)) | ((with_reducible apply o_mulE (v := (kn : Int))); exact rfl; exact rfl; exact hkn2; omega; exact rfl) | ((with_reducible first | apply o_move | apply o_assign | apply o_faddr0 | apply o_conv); exact rfl; exact rfl) | ((with_reducible first | apply o_lss | apply o_eql | apply o_neq); exact rfl; exact rfl; exact rfl) | ((with_reducible first | apply o_add | apply o_sub | apply o_mul); exact rfl; exact rfl; exact rfl; (constructor <;> omega)) | ((with_reducible first | apply o_quo | apply o_rem); exact rfl; exact rfl; exact rfl; omega) | ((with_reducible first | apply c_seq | apply c_block | apply c_region | apply c_nil | apply c_ret | apply c_exit | apply c_skip)) | ((with_reducible first | apply e_then | apply e_then_ret | apply e_then_exit | apply e_in | apply e_in_ret | apply e_in_same)))
          refine l_again (k + 1, (au, cu), NU) ⟨⟨by dsimp only; omega, by dsimp only; rw [e1]; omega⟩, by dsimp only; rw [e1]; exact hOU⟩ (by dsimp only; omega) ?_ ?_
          · exact fS_
          · (try dsimp only); rw [e1]; exact hS_
    obtain rfl : k = its.length := by omega
    repeat' (first | ((with_reducible apply c_cond_f); exact rfl; exact decide_eq_false (by omega)) | ((with_reducible first | apply o_move | apply o_assign | apply o_faddr0 | apply o_conv); exact rfl; exact rfl) | ((with_reducible apply gdo_load); first | refine wo_load (h := ?_) | refine wo_loadAll (h := ?_) | refine wo_loadC (h := ?_) | refine wo_ldV (h := ?_) | refine wo_ldF (h := ?_)) | ((with_reducible first | apply o_lss | apply o_eql | apply o_neq); exact rfl; exact rfl; exact rfl) | ((with_reducible apply o_len); infer_instance; exact rfl; exact rfl) | ((with_reducible first | apply c_seq | apply c_block | apply c_region | apply c_nil | apply c_ret | apply c_exit | apply c_skip)) | ((with_reducible first | apply e_then | apply e_then_ret | apply e_then_exit | apply e_in | apply e_in_ret | apply e_in_same)))
    apply c_loop (σ := Nat × (Option Addr × Nat) × List Ent) (Fs := fun t => [(289, .int .i64 t.1), (288, .int .i64 c), (10, .slice t.2.1.1 (re ++ Plt.bSrcs (20 - i) t.1).length t.2.1.2), (14, ptr b14), (13, ptr b13), (12, .int .i64 n), (11, .int .i64 i), (3, ptr b3), (2, ptr b2), (1, ptr b1)])
      (Ls := fun t => ⟨b14, Ce [.int .i64 (20 - i), .int .i64 mid, .int .i64 rel, .slice af fr.length cf, .slice at_ (Plt.bTab n c 8).length ct, .slice au (Plt.bUn its n i its.length).length cu] 58, true⟩ :: ⟨b13, Ce [.int .i64 mid, .int .i64 msw, .int .i64 mra, .slice x1 c k1, .slice x2 msl k2] 61, true⟩ :: ⟨b3, Ce [.slice (some ⟨bM, 0, none⟩) ds.length cm, .slice ai its.length ci, .slice ap ys.length cp] 29, true⟩ :: ⟨b2, Ce [.slice none 0 0, .slice none 0 0, .slice none 0 0] 29, true⟩ :: ⟨b1, Ce [.slice a0 x.ms.length c0, .slice a1 x.shs.length c1, .slice a2 x.its.length c2, .slice (some ⟨b, off, none⟩) x.ps.length c3] 24, true⟩ :: (t.2.2 ++ (NU ++ (NT ++ (NF ++ (NP ++ (NY ++ (NI ++ (⟨bM, Ce (ds.flatMap encMD ++ sM) 61, true⟩ :: (NX ++ []))))))))))
      (I := fun t => (t.1 ≤ c ∧ (re ++ Plt.bSrcs (20 - i) t.1).length = re.length + t.1) ∧ OW 64 2 encSrc (.slice t.2.1.1 (re ++ Plt.bSrcs (20 - i) t.1).length t.2.1.2) (re ++ Plt.bSrcs (20 - i) t.1) t.2.2) (μ := fun t => c - t.1) (s0 := (0, (ar, cr), NR))
    · exact ⟨⟨Nat.zero_le _, by simp [Plt.bSrcs]⟩, by dsimp only; rw [show Plt.bSrcs (20 - i) 0 = [] from rfl, List.append_nil]; exact hOR⟩
    · (try dsimp only); rw [show Plt.bSrcs (20 - i) 0 = [] from rfl, List.append_nil]; exact fS_
    · exact hS_
    rintro ⟨k, ⟨ar2, cr2⟩, NR2⟩ ⟨⟨hk3, hrl3⟩, hOR2⟩
    dsimp only at hk3 hrl3 hOR2 ⊢
    have oR2 := hOR2.own
    by_cases hlt4 : k < c
    · have e1 : re ++ Plt.bSrcs (20 - i) (k + 1) = (re ++ Plt.bSrcs (20 - i) k) ++ [((20 - i : Int), (k : Int))] := by rw [Plt.bSrcs_succ, List.append_assoc]
      have hrl4 : (re ++ Plt.bSrcs (20 - i) (k + 1)).length = re.length + (k + 1) := by rw [e1, List.length_append, List.length_singleton]; omega
      generalize re ++ Plt.bSrcs (20 - i) k = RB at *
      as_aux_lemma =>
        repeat' (first | ((with_reducible apply c_cond_t); exact rfl; exact decide_eq_true (by omega)) | (apply o_appH (enc := encSrc) (ys := [(((20 - i : Int), (k : Int)))]); infer_instance; infer_instance; infer_instance; exact rfl; exact encSrc_len; exact encSrc_one; exact rfl; exact rfl; exact rfl; assumption; exact rL_; (exact fun w hw => SV.lit [(((20 - i : Int), (k : Int)))] encSrc_len hw (by exact aT_) rfl rfl (by decide)); (first | decide | (constructor <;> (try simp only [List.length_cons, List.length_nil]) <;> omega) | (constructor <;> simp <;> omega)); intro a_ cp_ N_ hO_; have oN_ := hO_.own; (try simp only [List.nil_append, List.append_assoc] at hO_); (try simp only [List.append_eq, List.append_assoc, List.cons_append, List.nil_append])) | ((with_reducible first | apply o_move | apply o_assign | apply o_faddr0 | apply o_conv); exact rfl; exact rfl) | ((with_reducible apply gdo_load); first | refine wo_load (h := ?_) | refine wo_loadAll (h := ?_) | refine wo_loadC (h := ?_) | refine wo_ldV (h := ?_) | refine wo_ldF (h := ?_)) | ((with_reducible first | apply o_lss | apply o_eql | apply o_neq); exact rfl; exact rfl; exact rfl) | ((with_reducible first | apply o_add | apply o_sub | apply o_mul); exact rfl; exact rfl; exact rfl; (constructor <;> omega)) | ((with_reducible apply gdo_build); first | refine wo_build (h := ?_)) | ((with_reducible apply gdo_buildSlice); refine wo_buildSlice (h := fun _ => ?_)) | ((with_reducible first | apply c_seq | apply c_block | apply c_region | apply c_nil | apply c_ret | apply c_exit | apply c_skip)) | ((with_reducible first | apply e_then | apply e_then_ret | apply e_then_exit | apply e_in | apply e_in_ret | apply e_in_same)))
        rw [← e1] at hO_ ⊢
        refine l_again (k + 1, (a_, cp_), N_) ⟨⟨by dsimp only; omega, hrl4⟩, hO_⟩ (by dsimp only; omega) ?_ ?_
        · exact fS_
        · exact hS_
    obtain rfl : k = c := by omega
    have hny : Shw (NF ++ (NT ++ (NU ++ NY))) (fun w => ∀ (j : Nat) (d : PD) (y : Plt.Pass), (ys ++ [(⟨20 - i, mid, rel, (af, fr.length, cf), (at_, (Plt.bTab n k 8).length, ct), (au, (Plt.bUn its n i its.length).length, cu)⟩ : PD)])[j]? = some d → (Plt.bAt ms its x.ps (i + 1)).2[j]? = some y → PassV w d y) := by
      rw [hnext2]
      intro w0 w1 L L0 hr hw j d y hd hy
      by_cases hj : j < ys.length
      · rw [List.getElem?_append_left hj] at hd
        rw [List.getElem?_append_left (by omega)] at hy
        exact (Shw.right (Shw.right (Shw.right hPY))) w0 w1 L L0 hr hw j d y hd hy
      · have : j = ys.length := by
          have h := (List.getElem?_eq_some_iff.1 hd).1
          rw [List.length_append, List.length_singleton] at h
          omega
        subst this
        rw [List.getElem?_append_right (Nat.le_refl _), Nat.sub_self] at hd
        rw [List.getElem?_append_right (by omega), hyl, hpsl, Nat.sub_self] at hy
        cases hd; cases hy
        exact ⟨rfl, rfl, rfl, (Shw.left (Shw.ow encSrc_len hOF)) w0 w1 L L0 hr hw, (Shw.right (Shw.left (Shw.ow encRow_len hOT))) w0 w1 L L0 hr hw, (Shw.right (Shw.right (Shw.left (Shw.ow encI_len hOU)))) w0 w1 L L0 hr hw⟩
    rw [← hnext1] at hOR2 hrl3 ⊢
    have hnl : (Plt.bAt ms its x.ps (i + 1)).1.length ≤ 5 * (i + 1) := by omega
    as_aux_lemma =>
      repeat' (first | ((with_reducible apply c_cond_f); exact rfl; exact decide_eq_false (by omega)) | (apply o_appH (enc := encPD) (ys := [(⟨20 - i, mid, rel, (af, fr.length, cf), (at_, (Plt.bTab n k 8).length, ct), (au, (Plt.bUn its n i its.length).length, cu)⟩ : PD)]); infer_instance; infer_instance; infer_instance; exact rfl; exact encPD_len; exact encPD_one; exact rfl; exact rfl; exact rfl; assumption; exact rL_; (exact fun w hw => SV.lit [(⟨20 - i, mid, rel, (af, fr.length, cf), (at_, (Plt.bTab n k 8).length, ct), (au, (Plt.bUn its n i its.length).length, cu)⟩ : PD)] encPD_len hw (by exact aT_) rfl rfl (by decide)); (first | decide | (constructor <;> (try simp only [List.length_cons, List.length_nil]) <;> omega) | (constructor <;> simp <;> omega)); intro a_ cp_ N_ hO_; have oN_ := hO_.own; (try simp only [List.nil_append, List.append_assoc] at hO_); (try simp only [List.append_eq, List.append_assoc, List.cons_append, List.nil_append])) | ((with_reducible first | apply o_move | apply o_assign | apply o_faddr0 | apply o_conv); exact rfl; exact rfl) | ((with_reducible apply gdo_load); first | refine wo_load (h := ?_) | refine wo_loadAll (h := ?_) | refine wo_loadC (h := ?_) | refine wo_ldV (h := ?_) | refine wo_ldF (h := ?_)) | ((with_reducible first | apply o_lss | apply o_eql | apply o_neq); exact rfl; exact rfl; exact rfl) | ((with_reducible first | apply o_add | apply o_sub | apply o_mul); exact rfl; exact rfl; exact rfl; (constructor <;> omega)) | ((with_reducible apply gdo_store); first | refine wo_store1 (h := ?_) | refine wo_storeA (h := ?_)) | ((with_reducible apply gdo_buildSlice); refine wo_buildSlice (h := fun _ => ?_)) | ((with_reducible first | apply c_seq | apply c_block | apply c_region | apply c_nil | apply c_ret | apply c_exit | apply c_skip)) | ((with_reducible first | apply e_then | apply e_then_ret | apply e_then_exit | apply e_in | apply e_in_ret | apply e_in_same)))
      refine l_again (i + 1, ((ar2, cr2), NR2), ((a_, cp_), ys ++ [(⟨20 - i, mid, rel, (af, fr.length, cf), (at_, (Plt.bTab n k 8).length, ct), (au, (Plt.bUn its n i its.length).length, cu)⟩ : PD)], N_), NF ++ (NT ++ (NU ++ NY))) ⟨⟨by dsimp only; omega, hnl⟩, hOR2, by simp [hyl], hO_, own_app oF (own_app oT (own_app oU oY)), hny⟩ (by dsimp only; omega) ?_ ?_
      · exact fS_
      · simp only [List.append_assoc]; exact hS_
  have hpl : i = min x.ps.length 6 := by omega
  subst hpl
  have hbl : (Plt.built x) = ⟨ms, its, (Plt.bAt ms its x.ps (min x.ps.length 6)).2⟩ := by unfold Plt.built; rw [hM, hI]
  rw [hbl]
  have hbpl := Plt.bAt_len ms its x.ps (min x.ps.length 6)
  repeat' (first | ((with_reducible apply c_cond_f); exact rfl; exact decide_eq_false (by omega)) | ((with_reducible apply o_pick_t); exact rfl; exact decide_eq_true (by omega); exact rfl; exact rfl) | ((with_reducible apply o_pick_f); exact rfl; exact decide_eq_false (by omega); exact rfl; exact rfl) | ((with_reducible apply g_run); exact rfl; exact decide_eq_true (by omega)) | ((with_reducible apply g_skip); exact rfl; exact decide_eq_false (by omega); exact rfl) | ((with_reducible first | apply o_move | apply o_assign | apply o_faddr0 | apply o_conv); exact rfl; exact rfl) | ((with_reducible apply gdo_load); first | refine wo_load (h := ?_) | refine wo_loadAll (h := ?_) | refine wo_loadC (h := ?_) | refine wo_ldV (h := ?_) | refine wo_ldF (h := ?_)) | ((with_reducible first | apply o_lss | apply o_eql | apply o_neq); exact rfl; exact rfl; exact rfl) | ((with_reducible apply gdo_store); first | refine wo_store1 (h := ?_) | refine wo_storeA (h := ?_)) | ((with_reducible apply o_len); infer_instance; exact rfl; exact rfl) | ((with_reducible first | apply c_seq | apply c_block | apply c_region | apply c_nil | apply c_ret | apply c_exit | apply c_skip)) | ((with_reducible apply c_cond_f); exact rfl; exact fF_) | ((with_reducible first | apply e_then | apply e_then_ret | apply e_then_exit | apply e_in | apply e_in_ret | apply e_in_same)) | ((with_reducible apply g_split_d); exact rfl; intro hcond; rotate_left; intro hcond; rotate_left))
  all_goals
    apply r_body; apply res1 Try.results10; exact rV_; intro w' hw
    have hyl2 : ys.length = (Plt.bAt ms its x.ps (min x.ps.length 6)).2.length := by rw [hyl, hbpl]
    rw [hyl2] at hOP
    rw [hdl] at hOM
    exact ⟨_, NM ++ (NI ++ (NP ++ (NY ++ NX))), rfl, ⟨am, cm, ai, ci, ap, cp, ds, ys, NM, NI, NP, NY ++ NX, by rw [hdl, hyl2], ⟨hOM, hOI, hOP⟩, ⟨rfl, own_app oY oX⟩, ⟨hdl, hyl2⟩, Shw.right hMX, Shw.left hPY⟩, hw.sub (by exact hS_), own_app oM (own_app oI (own_app oP (own_app oY oX)))⟩
end Go.Proofs.Ytkhaemjoekfhiaa
namespace Go.Sx.Plt
def minI (l : List (Int × Int)) (q : Int) : Int := match minuteF l q with
  | some m => m
  | none => -1
/-- How often an item is in one of the stackers. -/
def inSt (x nu : Int) (l : List (List Int)) : Int := if 0 ≤ nu then ((l.getD nu.toNat []).count x : Int) else 0
def allN (r : Run) (x : Int) (n : Nat) : Int := (r.res.over.count x : Int) + (r.res.rej.count x : Int) + (((r.res.stackers.take n).flatten.count x : Nat) : Int)
def hereF (r : Run) (x kd nu : Int) : Int := if kd = 2 then inSt x nu r.res.stackers else if kd = 3 then (r.res.over.count x : Int) else if kd = 4 then (r.res.rej.count x : Int) else 0
/-- What holds says of a place. -/
def holdsF (r : Run) (x kd ps nu : Int) : Prop := (allN r x r.res.stackers.length = 1 ∧ hereF r x kd nu = 1) ∧ ps = r.pass ∧ (nu = 0 ∨ kd = 2)
instance (r : Run) (x kd ps nu : Int) : Decidable (holdsF r x kd ps nu) := by unfold holdsF; infer_instance
end Go.Sx.Plt
namespace Go.Proofs.Ytkhaemjoekfhiaa
open Go Go.Sx Go.RowKit
attribute [local irreducible] WL WC WQ WR WB WF QB St Exit.then Exit.inBlock Exit.noGoto bodyPost roundPost beginK YR RG BM Calls B AgainD MeetD
/-! ## the minute of an item, and where a run holds it -/
end Go.Proofs.Ytkhaemjoekfhiaa
namespace Go.Sx.Plt
def ofBatch (items : List Item) (s : Int × Int) : List Int := if s.1 = 0 then (items.filter fun x => x.batch = s.2).map Item.id else []
def ofRun (s : Int × Int) (r : Run) : List Int := if r.pass = s.1 ∧ s.2 < r.res.stackers.length then r.res.stackers.getD s.2.toNat [] else []
/-- The items of some sources. -/
def takenF (items : List Item) (runs : List Run) (src : List (Int × Int)) : List Int := src.flatMap fun s => ofBatch items s ++ runs.flatMap (ofRun s)
theorem flatMap_snoc' {α β : Type} {l : List α} {j : Nat} {x : α} (f : α → List β) (h : l[j]? = some x) : (l.take (j + 1)).flatMap f = (l.take j).flatMap f ++ f x := by
  rw [Go.Proofs.Ytkhaemjoekfhiaa.take_snoc h, List.flatMap_append]; simp
end Go.Sx.Plt
namespace Go.Proofs.Ytkhaemjoekfhiaa
open Go Go.Sx Go.RowKit
attribute [local irreducible] WL WC WQ WR WB WF QB St Exit.then Exit.inBlock Exit.noGoto bodyPost roundPost beginK YR RG BM Calls B AgainD MeetD
/-! ## the items of the sources of a pass -/
def takenφ (T : List Int) (v : Value) (N : List Ent) : Prop := ∃ a c, v = .slice a T.length c ∧ OW 3 1 encI (.slice a T.length c) T N
end Go.Proofs.Ytkhaemjoekfhiaa
namespace Go.Sx.Srt
open Go.Sx.Seq (addAt addAt_len)
def shift (d : Int) (m : M) : M := { m with left := m.left + d }
/-- How many sweeps are needed. -/
def needed (caps : List Int) (l : List Fd) : Int := (playF caps l.length l).swept.sum
/-! ## events -/
end Go.Sx.Srt
namespace Go.Sx.Srt
open Go.Sx.Seq (addAt addAt_len)
/-- What belongs to a stacker, in the order of feeding. -/
def goes (l : List Fd) (k : Nat) : List Int := (l.filter fun f => f.st = (k : Int)).map Fd.item
def refused (l : List Fd) : List Int := (l.filter fun f => f.st < 0).map Fd.item
end Go.Sx.Srt
namespace Go.Sx.Plt
open Go.Proofs.Ytkhaemjoekfhiaa (mslF_keys psF tkF psF_snoc tkF_snoc)
/-! ## slices and minutes -/
theorem span_min {rel : Int} : ∀ {l : List Sh} {left : Int}, 0 ≤ left → spanF (slicesF rel left l) = min left (haveF rel l)
  | [], left, h => by simp [slicesF, spanF, haveF]; omega
  | s :: r, left, h => by
    have hh : 0 ≤ haveF rel r := by
      have : ∀ l : List Sh, 0 ≤ haveF rel l := by
        intro l
        induction l with
        | nil => simp [haveF]
        | cons a l ih => rw [haveF]; omega
      exact this r
    rw [slicesF, haveF]
    by_cases hc : left = 0 ∨ s.t ≤ max s.f rel
    · rw [if_pos hc, span_min h]
      rcases hc with h0 | h0 <;> omega
    · rw [if_neg hc, spanF, span_min (by omega)]
      dsimp only
      omega
/-- Slices, one behind the other. -/
def Chain : Int → List (Int × Int) → Prop
  | _, [] => True
  | e, s :: r => (e ≤ s.1 ∧ s.1 < s.2) ∧ Chain s.2 r
theorem Chain.mono : ∀ {l : List (Int × Int)} {e e' : Int}, e' ≤ e → Chain e l → Chain e' l
  | [], _, _, _, _ => trivial
  | s :: r, e, e', h, hc => ⟨by have := hc.1; omega, hc.2⟩
theorem need_lt {k n : Int} {r : Int} (hr : 1 ≤ r) : k < (n + r - 1) / r ↔ k * r < n := by
  have h1 : k + 1 ≤ (n + r - 1) / r ↔ (k + 1) * r ≤ n + r - 1 := Int.le_ediv_iff_mul_le (by omega)
  have h2 : (k + 1) * r = k * r + r := by rw [Int.add_mul, Int.one_mul]
  rw [h2] at h1
  omega
/-! ## feeds -/
theorem tableF_mem {k v : Int} : ∀ l : List Row, asF k (tableF l) = some v → ∃ e ∈ l, e.stop = k ∧ e.st = v := by
  refine fun l => snoc_ind (p := fun l => asF k (tableF l) = some v → ∃ e ∈ l, e.stop = k ∧ e.st = v) (fun h => by simp [tableF, asF] at h) (fun l e ih h => ?_) l
  rw [tableF_snoc, asF_put] at h
  by_cases hk : e.stop = k
  · rw [if_pos hk] at h
    exact ⟨e, by simp, hk, by simpa using h⟩
  · rw [if_neg hk] at h
    obtain ⟨x, hx, h1⟩ := ih h
    exact ⟨x, List.mem_append.2 (.inl hx), h1⟩
theorem rows_spec {n : Int} : ∀ {l : List Row} {met : List Int}, rowsOk n met l → ∀ e ∈ l, 0 ≤ e.st ∧ e.st < n
  | [], _, _, e, h => by simp at h
  | a :: r, met, h, e, he => by
    rcases List.mem_cons.1 he with rfl | he
    · exact h.1.2
    · exact rows_spec h.2 e he
theorem feed_item (stops : List (Int × Int)) (y : Pass) (x : Int) : (feedOf stops y x).item = x := by unfold feedOf; split <;> rfl
theorem feed_bd {stops : List (Int × Int)} {y : Pass} {n : Int} (hr : rowsOk n [] y.table) (hn : 0 ≤ n) (x : Int) : -1 ≤ (feedOf stops y x).st ∧ (feedOf stops y x).st < n := by
  unfold feedOf
  cases ho : asF ((asF x stops).getD 0) (tableF y.table) with
  | none => dsimp only; omega
  | some k =>
    obtain ⟨e, he, _, rfl⟩ := tableF_mem _ ho
    have := rows_spec hr e he
    dsimp only
    split <;> omega
theorem Valid.feeds {p : Plant} (hv : Valid p) {i : Nat} {h : Hall} (hi : Inv p i h) {y : Pass} (hy : p.passes[i]? = some y) {m : Mach} (hm : asF y.mach (mslF p.ms) = some (m.caps.length : Int)) {items : List Int} (hit : items = y.src.flatMap h.row) : Srt.FdsOk m.caps.length (items.map (feedOf (stopsF p.items) y)) ∧ (∀ x ∈ items, x ∈ p.items.map Item.id) ∧ items.Nodup := by
  have hs := hv.src hy
  have hcount := fun x => hi.count hs.1 (fun s hs' => (hs.2 s hs').1) x
  rw [← hit] at hcount
  have hmem : ∀ x ∈ items, x ∈ p.items.map Item.id := fun x hx => by
    have h1 := List.count_pos_iff.2 hx
    have := hcount x
    exact List.count_pos_iff.1 (by omega)
  have hnd : items.Nodup := List.nodup_iff_count.2 fun x => by
    have := hcount x
    have := List.nodup_iff_count.1 hv.ind x
    omega
  refine ⟨⟨fun f hf => ?_, ?_, ?_⟩, hmem, hnd⟩
  · obtain ⟨x, hx, rfl⟩ := List.mem_map.1 hf
    obtain ⟨z, hz, e⟩ := List.mem_map.1 (hmem x hx)
    have hok := (hv.iok z hz).1
    unfold idOk at hok
    have hrow := (hv.pok i y hy).2.2.2
    rw [hm, Option.getD_some] at hrow
    have := feed_bd (stops := stopsF p.items) hrow (by omega) x
    unfold Srt.Fd.ok
    rw [feed_item]
    omega
  · rw [feed_items]; exact hnd
  · rw [List.length_map]
    have := hi.len hv hs.1 (fun s hs' => (hs.2 s hs').1)
    rw [← hit] at this
    exact this
/-! ## one run -/
/-- A run that was run. -/
structure Ran (p : Plant) (h : Hall) (m : Mach) (y : Pass) (r : Run) (ready : Int) : Prop where
  take : takeSrc h (max y.rel ((asF m.id h.free).getD 0)) [] y.src = some (ready, r.items)
  pass : r.pass = y.id
  res : Srt.runF m.caps m.sweeps (r.items.map (feedOf (stopsF p.items) y)) = (r.res, 0)
  hall : (runF h m (stopsF p.items) y).2 = ⟨putRows y.id 0 r.res.stackers h.rows, putF y.id r.fin h.ends, putF m.id r.fin h.free⟩
  slices : r.slices = if r.items = [] then [] else slicesF ready (needOf r.items.length m.rate) m.shifts
  enough : needOf r.items.length m.rate ≤ haveF ready m.shifts
  start : r.start = if r.items = [] then ready else (r.slices.headD (0, 0)).1
  fin : r.fin = if r.items = [] then ready else (r.slices.getLastD (0, 0)).2
/-- A run that was not. -/
structure Miss (p : Plant) (h : Hall) (m : Mach) (y : Pass) (r : Run) : Prop where
  eq : r = missed y
  hall : (runF h m (stopsF p.items) y).2 = h
  why : ∀ ready items, takeSrc h (max y.rel ((asF m.id h.free).getD 0)) [] y.src = some (ready, items) → haveF ready m.shifts * m.rate < items.length
theorem need_nonneg {n : Nat} {r : Int} (hr : 1 ≤ r) : 0 ≤ needOf n r := Int.ediv_nonneg (by omega) (by omega)
theorem haveF_nonneg (t : Int) : ∀ l : List Sh, 0 ≤ haveF t l
  | [] => by simp [haveF]
  | a :: r => by have := haveF_nonneg t r; rw [haveF]; omega
theorem run_cases {p : Plant} (hv : Valid p) {i : Nat} {h : Hall} (hi : Inv p i h) {y : Pass} (hy : p.passes[i]? = some y) {m : Mach} (hm : asF y.mach (mslF p.ms) = some (m.caps.length : Int)) (hr : rightM m) :
    Miss p h m y (runF h m (stopsF p.items) y).1 ∨ ∃ ready, Ran p h m y (runF h m (stopsF p.items) y).1 ready := by
  have hrate := hr.2.1.1
  cases ht : takeSrc h (max y.rel ((asF m.id h.free).getD 0)) [] y.src with
  | none =>
    have e : runF h m (stopsF p.items) y = (missed y, h) := by unfold runF; rw [ht]
    exact .inl ⟨by rw [e], by rw [e], fun ready items hh => by rw [ht] at hh; cases hh⟩
  | some q =>
    obtain ⟨ready, items⟩ := q
    have hit := (takeSrc_spec ht).1
    rw [List.nil_append] at hit
    obtain ⟨hfd, _, _⟩ := hv.feeds hi hy hm hit
    have hcaps : Srt.capsOk m.caps ∧ 0 ≤ m.sweeps ∧ m.sweeps ≤ 1000 := by
      have h1 := hr.2.2.1
      unfold Srt.runF at h1
      split at h1
      · cases h1
      · rename_i hc
        split at h1
        · cases h1
        · rename_i hs
          exact ⟨Classical.not_not.1 hc, by omega, by omega⟩
    have hres := Srt.runF_ok hcaps.1 hcaps.2 hfd
    by_cases hne : items = []
    · subst hne
      have e := Go.Proofs.Ytkhaemjoekfhiaa.runF_idle (stops := stopsF p.items) ht
      rw [show Srt.runF m.caps m.sweeps [] = _ from hres] at e
      unfold Go.Proofs.Ytkhaemjoekfhiaa.tailF at e
      rw [if_neg (by simp)] at e
      refine .inr ⟨ready, ?_⟩
      rw [e]
      refine ⟨ht, rfl, hres, by rw [e], rfl, ?_, rfl, rfl⟩
      have : needOf ([] : List Int).length m.rate = 0 := by
        unfold needOf
        exact Int.ediv_eq_zero_of_lt (by simp; omega) (by simp; omega)
      dsimp only
      rw [this]
      exact haveF_nonneg _ _
    · have hsp := span_min (rel := ready) (l := m.shifts) (need_nonneg (n := items.length) hrate)
      by_cases hl : slicesF ready (needOf items.length m.rate) m.shifts = [] ∨ spanF (slicesF ready (needOf items.length m.rate) m.shifts) < needOf items.length m.rate
      · have e := Go.Proofs.Ytkhaemjoekfhiaa.runF_late (stops := stopsF p.items) ht hne hl
        refine .inl ⟨by rw [e], by rw [e], fun r2 i2 hh => ?_⟩
        rw [ht] at hh
        cases hh
        have hn1 : 1 ≤ needOf items.length m.rate := by
          have := List.length_pos_iff.2 hne
          unfold needOf
          exact Int.le_ediv_of_mul_le (by omega) (by omega)
        have h2 : haveF ready m.shifts < needOf items.length m.rate := by
          rcases hl with h0 | h0
          · rw [h0, spanF] at hsp; omega
          · omega
        exact (need_lt hrate).1 h2
      · have e := Go.Proofs.Ytkhaemjoekfhiaa.runF_busy (stops := stopsF p.items) ht hne hl
        rw [hres] at e
        unfold Go.Proofs.Ytkhaemjoekfhiaa.tailF at e
        rw [if_neg (by simp)] at e
        refine .inr ⟨ready, ?_⟩
        rw [e]
        refine ⟨ht, rfl, hres, by rw [e], by dsimp only; rw [if_neg hne], by dsimp only; omega, by dsimp only; rw [if_neg hne], by dsimp only; rw [if_neg hne]⟩
end Go.Sx.Plt
namespace Go.Sx.Plt
open Go.Proofs.Ytkhaemjoekfhiaa (mslF_keys psF tkF psF_snoc tkF_snoc)
/-- The run of a pass of a valid plant. -/
theorem Valid.run {p : Plant} (hv : Valid p) {i : Nat} {y : Pass} (hy : p.passes[i]? = some y) {r : Run} (hr : (playF p)[i]? = some r) : ∃ (k : Nat) (m : Mach), p.ms[k]? = some m ∧ m.id = y.mach ∧ rightM m ∧ r = (runF (hallAt p i) m (stopsF p.items) y).1 ∧ hallAt p (i + 1) = (runF (hallAt p i) m (stopsF p.items) y).2 ∧
    asF y.mach (mslF p.ms) = some (m.caps.length : Int) ∧ (Miss p (hallAt p i) m y r ∨ ∃ ready, Ran p (hallAt p i) m y r ready) := by
  obtain ⟨k, m, h1, h2, h3, h4, h5⟩ := hv.mach hy
  have hg := playF_get hy
  rw [hr, h3] at hg
  have e : r = (runF (hallAt p i) m (stopsF p.items) y).1 := Option.some.inj hg
  refine ⟨k, m, h1, h2, h4, e, by rw [hallAt_succ hy, h3], h5, ?_⟩
  rw [e]
  exact run_cases hv (Inv.all hv i) hy h5 h4
theorem pass_lt {p : Plant} {i : Nat} {y : Pass} (h : p.passes[i]? = some y) : i < p.passes.length := (List.getElem?_eq_some_iff.1 h).1
theorem Valid.get {p : Plant} {i : Nat} {y : Pass} (h : p.passes[i]? = some y) : ∃ r, (playF p)[i]? = some r := ⟨_, List.getElem?_eq_getElem (by rw [playF_len]; exact pass_lt h)⟩
theorem hall_stay {p : Plant} {i : Nat} (h : p.passes[i]? = none) : hallAt p (i + 1) = hallAt p i := by
  unfold hallAt
  rw [List.take_add_one, h]; simp
/-! ## rows -/
theorem batch_row (b : Int) : ∀ l : List Item, (asF ((0 : Int), b) (batchRows [] l)).getD [] = ofBatch l (0, b) := by
  refine fun l => snoc_ind (p := fun l => (asF ((0 : Int), b) (batchRows [] l)).getD [] = ofBatch l (0, b)) (by simp [batchRows, asF, ofBatch]) (fun l x ih => ?_) l
  rw [batch_snoc, asF_put]
  unfold ofBatch at ih ⊢
  rw [if_pos rfl] at ih ⊢
  rw [List.filter_append, List.map_append]
  by_cases h : x.batch = b
  · rw [if_pos (by rw [h]), Option.getD_some, h, ih]; simp [h]
  · rw [if_neg (fun e => h (Prod.mk.inj e).2), ih]; simp [h]
theorem batch_row0 {s : Int × Int} (h : s.1 ≠ 0) (l : List Item) : asF s (batchRows [] l) = none := by
  refine snoc_ind (p := fun l => asF s (batchRows [] l) = none) (by simp [batchRows, asF]) (fun l x ih => ?_) l
  rw [batch_snoc, asF_put, if_neg (fun e => h (by rw [← e]))]
  exact ih
theorem ofRun_missed (y : Pass) {s : Int × Int} (h : 0 ≤ s.2) : ofRun s (missed y) = [] := by
  unfold ofRun
  rw [if_neg]
  rintro ⟨_, h2⟩
  simp [missed, Srt.M.new] at h2
  omega
theorem Valid.rows {p : Plant} (hv : Valid p) {s : Int × Int} (hs : 0 ≤ s.2) : ∀ i, (hallAt p i).row s = ofBatch p.items s ++ ((playF p).take i).flatMap (ofRun s)
  | 0 => by
    rw [hallAt_zero, List.take_zero, List.flatMap_nil, List.append_nil]
    unfold Hall.row hall0
    dsimp only
    by_cases h0 : s.1 = 0
    · obtain ⟨a, b⟩ := s
      dsimp only at h0
      subst h0
      exact batch_row b p.items
    · rw [batch_row0 h0]
      unfold ofBatch
      rw [if_neg h0]; rfl
  | i + 1 => by
    have ih := Valid.rows hv hs i
    cases hy : p.passes[i]? with
    | none =>
      have hl : p.passes.length ≤ i := by
        rcases Nat.lt_or_ge i p.passes.length with h | h
        · rw [List.getElem?_eq_getElem h] at hy; cases hy
        · exact h
      rw [hall_stay hy, ih, List.take_of_length_le (by rw [playF_len]; omega), List.take_of_length_le (by rw [playF_len]; omega)]
    | some y =>
      obtain ⟨r, hr⟩ := Valid.get hy
      obtain ⟨k, m, _, _, _, hre, hh, _, hc⟩ := hv.run hy hr
      rw [flatMap_snoc' _ hr, ← List.append_assoc, ← ih]
      rcases hc with hc | ⟨ready, hc⟩
      · rw [hh, hc.hall, hc.eq, ofRun_missed y hs, List.append_nil]
      · rw [hh, hc.hall]
        unfold Hall.row
        dsimp only
        obtain ⟨a, b⟩ := s
        dsimp only at hs
        rw [putRows_as]
        have hidn : y.id ≠ 0 := by
          have := (hv.pok i y hy).1.2.1
          unfold idOk at this
          omega
        unfold ofRun
        rw [hc.pass]
        dsimp only
        by_cases hid : a = y.id
        · subst hid
          have h0 : asF (y.id, b) (hallAt p i).rows = none := (Inv.all hv i).row_early hidn (hv.new hy)
          rw [h0]
          by_cases hb : b < (r.res.stackers.length : Int)
          · rw [if_pos ⟨rfl, by omega, by omega⟩, if_pos ⟨rfl, hb⟩]
            simp [List.getD_eq_getElem?_getD]
          · rw [if_neg (by rintro ⟨_, _, h⟩; omega), if_neg (fun h => hb h.2)]; rfl
        · rw [if_neg (fun h => hid h.1), if_neg (fun h => hid h.1.symm), List.append_nil]
theorem src_nonneg {ps : List (Int × Int)} {s : Int × Int} (h : srcOk ps s) : 0 ≤ s.2 := by
  unfold srcOk at h
  split at h
  · omega
  · split at h
    · exact h.elim
    · exact h.1
theorem Valid.src_nn {p : Plant} (hv : Valid p) {i : Nat} {y : Pass} (hy : p.passes[i]? = some y) : ∀ s ∈ y.src, 0 ≤ s.2 := fun s hs => src_nonneg ((srcs_spec (hv.pok i y hy).2.1).2 s hs).2
theorem Valid.taken' {p : Plant} (hv : Valid p) {i : Nat} {y : Pass} (hy : p.passes[i]? = some y) : y.src.flatMap (hallAt p i).row = takenF p.items ((playF p).take i) y.src := by
  unfold takenF
  have : ∀ l : List (Int × Int), (∀ s ∈ l, 0 ≤ s.2) → l.flatMap (hallAt p i).row = l.flatMap fun s => ofBatch p.items s ++ ((playF p).take i).flatMap (ofRun s) := by
    intro l
    induction l with
    | nil => intro _; rfl
    | cons a l ih =>
      intro h
      rw [List.flatMap_cons, List.flatMap_cons, ih fun s hs => h s (List.mem_cons_of_mem _ hs), hv.rows (h a List.mem_cons_self) i]
  exact this _ (hv.src_nn hy)
theorem Valid.taken_len {p : Plant} (hv : Valid p) {i : Nat} {y : Pass} (hy : p.passes[i]? = some y) : (takenF p.items ((playF p).take i) y.src).length ≤ 2000 := by
  rw [← hv.taken' hy]
  have hs := hv.src hy
  exact (Inv.all hv i).len hv hs.1 fun s hs' => (hs.2 s hs').1
theorem Ran.items {p : Plant} {i : Nat} {m : Mach} {y : Pass} {r : Run} {ready : Int} (hc : Ran p (hallAt p i) m y r ready) (hv : Valid p) (hy : p.passes[i]? = some y) : r.items = takenF p.items ((playF p).take i) y.src := by
  have := (takeSrc_spec hc.take).1
  rw [List.nil_append] at this
  rw [this, hv.taken' hy]
/-! ## where items are put -/
structure Placed (r : Run) (x st : Int) : Prop where
  all : allN r x r.res.stackers.length = 1
  rej : st < 0 → holdsF r x 4 r.pass 0
  put : 0 ≤ st → holdsF r x 2 r.pass st ∨ holdsF r x 3 r.pass 0
  place : ∀ kd ps nu, placeF r x = (kd, ps, nu) → (kd = 2 ∨ kd = 3 ∨ kd = 4) ∧ holdsF r x kd ps nu
end Go.Sx.Plt
namespace Go.Proofs.Ytkhaemjoekfhiaa
open Go Go.Sx Go.RowKit
attribute [local irreducible] WL WC WQ WR WB WF QB St Exit.then Exit.inBlock Exit.noGoto bodyPost roundPost beginK YR RG BM Calls B AgainD MeetD
/-! ## awake -/
theorem len20 : (Plt.playF (Plt.exPl 20)).length = 2 := by rw [Plt.playF_len]; rfl
theorem len14 : (Plt.playF (Plt.exPl 14)).length = 2 := by rw [Plt.playF_len]; rfl
set_option maxHeartbeats 16000000 in
set_option maxRecDepth 100000 in
theorem awake_calls (w : World) : Calls Try.prog 16 #[] w fun e w' => e = .returned (.bool true) ∧ Below w.heap.size w w' := by
  have hl20 := len20
  have hl14 := len14
  obtain ⟨r0, hr0, e01, e02, e03, e04, e05⟩ := Plt.ex20_r0
  obtain ⟨r1, hr1, e11, e12, e13, e14⟩ := Plt.ex20_r1
  obtain ⟨s0, hs0, f01⟩ := Plt.ex14_r0
  obtain ⟨s1, hs1, f11, f12, f13⟩ := Plt.ex14_r1
  refine f_enter0 Try.func16 rfl Try.ntmps16 rfl (Rep.start w) ?_
  repeat' (first | ((first | ((with_reducible apply o_call_new (f := 35)); exact rfl) | ((with_reducible apply q_call_new (f := 35)); exact rfl; exact rfl; exact sJ_)); exact eV_; exact (fun w _ => example_calls w); rintro v NE ⟨b1, b2, b3, b4, b5, b6, b7, b8, b9, rfl, rfl⟩ <;> (try simp only [List.cons_append, List.nil_append])) | ((first | ((with_reducible apply o_call_new (f := 11)); exact rfl) | ((with_reducible apply q_call_new (f := 11)); exact rfl; exact rfl; exact sJ_)); exact eV_; exact (fun w hw => play_calls31 (Plt.calm_of Plt.ex20_valid) w (ex_plV _ _ _ _ (by exact rL_) hw)); rintro v NR ⟨ar, cr, rds, rfl, ⟨hsh, hrl⟩, oR⟩ <;> (try simp only [List.cons_append, List.nil_append])) | ((with_reducible first | apply o_move | apply o_assign | apply o_faddr0 | apply o_not_d); exact rfl; exact rfl) | ((with_reducible apply gdo_load); first | refine wo_load (h := ?_) | refine wo_loadAll (h := ?_) | refine wo_loadC (h := ?_) | refine wo_ldV (h := ?_) | refine wo_ldF (h := ?_)) | ((with_reducible first | apply o_eql | apply o_neq | apply o_extract); exact rfl; exact rfl; exact rfl) | ((with_reducible apply o_pick_f); exact rfl; exact fF_; exact rfl; exact rfl) | ((with_reducible apply o_alloc); exact rfl; intro _) | ((with_reducible apply gdo_store); first | refine wo_store1 (h := ?_) | refine wo_storeA (h := ?_)) | ((with_reducible apply o_len); infer_instance; exact rfl; exact rfl) | ((with_reducible first | apply g_run); exact rfl; exact gG_) | ((with_reducible first | apply c_seq | apply c_block | apply c_region | apply c_nil | apply c_ret | apply c_exit | apply c_skip)) | ((with_reducible first | apply e_then | apply e_then_ret | apply e_then_exit | apply e_in | apply e_in_ret | apply e_in_same)) | ((with_reducible first | apply o_appd | apply o_appn)))
  refine st_know (fun w' hw' => RunsV.at (hsh _ _ _ _ (by exact rL_) hw') hr0) ?_
  rintro ⟨br, offr, x1, k1, x2, k2, x3, n3, k3, x4, n4, k4, x5, k5, x6, k6, x7, n7, k7, rfl, hd0, hn3, g0⟩
  refine st_know (fun w' hw' => RunsV.at (hsh _ _ _ _ (by exact rL_) hw') hr1) ?_
  rintro ⟨br', offr', y1, l1, y2, l2, y3, m3, l3, y4, m4, l4, y5, l5, y6, l6, y7, m7, l7, ebr, hd1, hm3, g1⟩
  cases ebr
  have hsl : (Plt.slc3 r0.pass r0.slices)[1]? = some (3, 10, 12) := by rw [e03, e04]; rfl
  refine st_know (fun w' hw' => SV.ptr ((hsh _ _ _ _ (by exact rL_) hw').2.2 0 _ _ hd0 hr0).slices hsl) ?_
  rintro ⟨bs, offs, rfl⟩
  have hsn0 : r0.slices.length = 2 := by rw [e04]; rfl
  repeat' (first | ((with_reducible apply o_pick_f); exact rfl; exact decide_eq_false (by omega); exact rfl; exact rfl) | ((with_reducible apply g_run); exact rfl; exact decide_eq_false (by omega)) | ((with_reducible apply o_idx (m := 0)); infer_instance; infer_instance; exact rfl; exact rfl; exact rfl; exact rfl; omega) | ((with_reducible apply o_idx (m := 1)); infer_instance; infer_instance; exact rfl; exact rfl; exact rfl; exact rfl; omega) | ((with_reducible apply o_ldP); infer_instance; exact rfl; (intro w' hw'; first | exact SV.cell (hsh _ _ _ _ (by exact rL_) hw').1 hd0 (g0 _ _ rfl) | exact SV.cell (hsh _ _ _ _ (by exact rL_) hw').1 hd1 (g1 _ _ rfl)); exact rfl) | ((with_reducible apply o_ldPV (l := [.int .i64 3, .int .i64 10, .int .i64 12])); infer_instance; infer_instance; exact rfl; (intro w' hw' j' v' hj'; exact SV.cell ((hsh _ _ _ _ (by exact rL_) hw').2.2 0 _ _ hd0 hr0).slices hsl hj'); exact rfl; exact rfl) | ((first | ((with_reducible apply o_call_pure (f := 20)); exact rfl) | ((with_reducible apply q_call_pure (f := 20)); exact rfl; kernel_rfl; exact rfl; exact sJ_)); exact eV_; exact (fun w hw => same_yes e13 w ((hsh _ _ _ _ (by exact rL_) hw).2.2 1 _ _ hd1 hr1).items (SV.lit [1, 3, 4, 2, 5] encI_len hw (by exact aT_) rfl rfl (by decide)))) | ((first | ((with_reducible apply o_call_pure (f := 24)); exact rfl) | ((with_reducible apply q_call_pure (f := 24)); exact rfl; kernel_rfl; exact rfl; exact sJ_)); exact eV_; exact (fun w hw => lists_is e05 w (((hsh _ _ _ _ (by exact rL_) hw).2.2 0 _ _ hd0 hr0).stk' rfl) (SV.lit ([(_, 3, 3), (_, 2, 2)] : List SD) encS_len hw (by exact aT_) rfl rfl (by decide)) (LL.two' (x := [1, 3, 4]) (y := [2, 5]) encI_len hw (by exact aT_) (by exact aT_) (by decide) (by decide)))) | ((first | ((with_reducible apply o_call_pure (f := 24)); exact rfl) | ((with_reducible apply q_call_pure (f := 24)); exact rfl; kernel_rfl; exact rfl; exact sJ_)); exact eV_; exact (fun w hw => lists_is e14 w (((hsh _ _ _ _ (by exact rL_) hw).2.2 1 _ _ hd1 hr1).stk' rfl) (SV.lit ([(_, 3, 3), (_, 2, 2)] : List SD) encS_len hw (by exact aT_) rfl rfl (by decide)) (LL.two' (x := [3, 2, 5]) (y := [1, 4]) encI_len hw (by exact aT_) (by exact aT_) (by decide) (by decide)))) | ((first | ((with_reducible apply o_call_pure (f := 36)); exact rfl) | ((with_reducible apply q_call_pure (f := 36)); exact rfl; kernel_rfl; exact rfl; exact sJ_)); exact eV_; exact (fun w hw => atp_calls Plt.ex20_valid Plt.ex20_w1 w (ex_plV _ _ _ _ (by exact rL_) hw))) | ((first | ((with_reducible apply o_call_pure (f := 36)); exact rfl) | ((with_reducible apply q_call_pure (f := 36)); exact rfl; kernel_rfl; exact rfl; exact sJ_)); exact eV_; exact (fun w hw => atp_calls Plt.ex20_valid Plt.ex20_w2 w (ex_plV _ _ _ _ (by exact rL_) hw))) | ((first | ((with_reducible apply o_call_pure (f := 36)); exact rfl) | ((with_reducible apply q_call_pure (f := 36)); exact rfl; kernel_rfl; exact rfl; exact sJ_)); exact eV_; exact (fun w hw => atp_calls Plt.ex20_valid Plt.ex20_w3 w (ex_plV _ _ _ _ (by exact rL_) hw))) | ((first | ((with_reducible apply o_call_pure (f := 36)); exact rfl) | ((with_reducible apply q_call_pure (f := 36)); exact rfl; kernel_rfl; exact rfl; exact sJ_)); exact eV_; exact (fun w hw => atp_calls Plt.ex20_valid Plt.ex20_w4 w (ex_plV _ _ _ _ (by exact rL_) hw))) | ((with_reducible first | apply o_move | apply o_assign | apply o_faddr0 | apply o_not_d); exact rfl; exact rfl) | ((with_reducible first | apply o_faddr); exact rfl; exact rfl) | ((with_reducible apply gdo_load); first | refine wo_load (h := ?_) | refine wo_loadAll (h := ?_) | refine wo_loadC (h := ?_) | refine wo_ldV (h := ?_) | refine wo_ldF (h := ?_)) | ((with_reducible first | apply o_eql | apply o_neq | apply o_extract); exact rfl; exact rfl; exact rfl) | ((with_reducible apply gdo_binOp_neq); refine wo_neq_s (h := ?_)) | ((with_reducible apply o_not); exact rfl; exact rfl) | ((with_reducible apply o_pick_f); exact rfl; exact fF_; exact rfl; exact rfl) | ((with_reducible apply o_alloc); exact rfl; intro _) | ((with_reducible apply gdo_store); first | refine wo_store1 (h := ?_) | refine wo_storeA (h := ?_)) | ((with_reducible apply gdo_build); first | refine wo_build (h := ?_)) | ((with_reducible apply o_len); infer_instance; exact rfl; exact rfl) | ((with_reducible apply gdo_buildSlice); refine wo_buildSlice (h := fun _ => ?_)) | ((with_reducible first | apply g_run); exact rfl; exact gG_) | ((with_reducible first | apply c_seq | apply c_block | apply c_region | apply c_nil | apply c_ret | apply c_exit | apply c_skip)) | ((with_reducible apply c_cond_f); exact rfl; exact fF_) | ((with_reducible first | apply e_then | apply e_then_ret | apply e_then_exit | apply e_in | apply e_in_ret | apply e_in_same)) | ((with_reducible first | apply o_appd | apply o_appn)))
  simp only [exN, exQ, sdV, List.cons_append, List.nil_append]
  repeat' (first | ((with_reducible apply o_idx (m := 0)); infer_instance; infer_instance; exact rfl; exact rfl; exact rfl; exact rfl; omega) | ((with_reducible apply o_idx (m := 1)); infer_instance; infer_instance; exact rfl; exact rfl; exact rfl; exact rfl; omega) | ((first | ((with_reducible apply o_call_new (f := 11)); exact rfl) | ((with_reducible apply q_call_new (f := 11)); exact rfl; exact rfl; exact sJ_)); exact eV_; exact (fun w hw => play_calls31 (Plt.calm_of Plt.ex14_valid) w (ex_plV (t := 14) _ _ _ _ (by unfold exN; exact rL_) hw)); rintro v NS_ ⟨as_, cs_, sds, rfl, ⟨hshs, hsl2⟩, oS⟩ <;> (try simp only [List.cons_append, List.nil_append])) | ((with_reducible first | apply o_move | apply o_assign | apply o_faddr0 | apply o_not_d); exact rfl; exact rfl) | ((with_reducible first | apply o_faddr); exact rfl; exact rfl) | ((with_reducible apply gdo_load); first | refine wo_load (h := ?_) | refine wo_loadAll (h := ?_) | refine wo_loadC (h := ?_) | refine wo_ldV (h := ?_) | refine wo_ldF (h := ?_)) | ((with_reducible first | apply o_eql | apply o_neq | apply o_extract); exact rfl; exact rfl; exact rfl) | ((with_reducible apply o_pick_t); exact rfl; exact tT_; exact rfl; exact rfl) | ((with_reducible apply gdo_store); first | refine wo_store1 (h := ?_) | refine wo_storeA (h := ?_)) | ((with_reducible apply o_len); infer_instance; exact rfl; exact rfl) | ((with_reducible first | apply g_run); exact rfl; exact gG_) | ((with_reducible first | apply c_seq | apply c_block | apply c_region | apply c_nil | apply c_ret | apply c_exit | apply c_skip)) | ((with_reducible first | apply e_then | apply e_then_ret | apply e_then_exit | apply e_in | apply e_in_ret | apply e_in_same)))
  refine st_know (fun w' hw' => RunsV.at (hshs _ _ _ _ (by exact rL_) hw') hs0) ?_
  rintro ⟨br, offr, x1, k1, x2, k2, x3, n3, k3, x4, n4, k4, x5, k5, x6, k6, x7, n7, k7, rfl, hd0, hn3, g0⟩
  refine st_know (fun w' hw' => RunsV.at (hshs _ _ _ _ (by exact rL_) hw') hs1) ?_
  rintro ⟨br', offr', y1, l1, y2, l2, y3, m3, l3, y4, m4, l4, y5, l5, y6, l6, y7, m7, l7, ebr, hd1, hm3, g1⟩
  cases ebr
  have hsi : s1.items.length = 0 := by rw [f13]; rfl
  repeat' (first | ((with_reducible apply o_pick_t); exact rfl; exact decide_eq_true (by omega); exact rfl; exact rfl) | ((with_reducible apply g_run); exact rfl; exact decide_eq_true (by omega)) | ((with_reducible apply o_idx (m := 0)); infer_instance; infer_instance; exact rfl; exact rfl; exact rfl; exact rfl; omega) | ((with_reducible apply o_idx (m := 1)); infer_instance; infer_instance; exact rfl; exact rfl; exact rfl; exact rfl; omega) | ((with_reducible apply o_ldP); infer_instance; exact rfl; (intro w' hw'; first | exact SV.cell (hshs _ _ _ _ (by exact rL_) hw').1 hd0 (g0 _ _ rfl) | exact SV.cell (hshs _ _ _ _ (by exact rL_) hw').1 hd1 (g1 _ _ rfl)); exact rfl) | ((first | ((with_reducible apply o_call_pure (f := 36)); exact rfl) | ((with_reducible apply q_call_pure (f := 36)); exact rfl; kernel_rfl; exact rfl; exact sJ_)); exact eV_; exact (fun w hw => atp_calls Plt.ex14_valid Plt.ex14_w w (ex_plV (t := 14) _ _ _ _ (by unfold exN; exact rL_) hw))) | ((with_reducible first | apply o_move | apply o_assign | apply o_faddr0 | apply o_not_d); exact rfl; exact rfl) | ((with_reducible first | apply o_faddr); exact rfl; exact rfl) | ((with_reducible apply gdo_load); first | refine wo_load (h := ?_) | refine wo_loadAll (h := ?_) | refine wo_loadC (h := ?_) | refine wo_ldV (h := ?_) | refine wo_ldF (h := ?_)) | ((with_reducible first | apply o_eql | apply o_neq | apply o_extract); exact rfl; exact rfl; exact rfl) | ((with_reducible apply o_len); infer_instance; exact rfl; exact rfl) | ((with_reducible first | apply c_seq | apply c_block | apply c_region | apply c_nil | apply c_ret | apply c_exit | apply c_skip)) | ((with_reducible first | apply e_then | apply e_then_ret | apply e_then_exit | apply e_in | apply e_in_ret | apply e_in_same)))
  apply r_body; apply res1 Try.results16; exact rV_; intro w' hw
  refine ⟨by simp, hw.below (show AO _ from by exact aO_)⟩
end Go.Proofs.Ytkhaemjoekfhiaa
namespace Go.Sx
open Go Go.RowKit
section
variable {P : Program} {n : Nat} {D : List Deferred} {w0 : World} {F : List (Nat × Value)} {L : List Ent} {J J1 : Made} {Φ : Specs} {X : Act → World → Prop} {kq : Nat} {ops : Array Oper}
variable {d : Tmp} {ty : TypeId} {pos : String} {af : Array Edge} {rest : List Oper}
end
end Go.Sx
namespace Go.Proofs.Ytkhaemjoekfhiaa
open Go Go.Sx Go.RowKit
attribute [local irreducible] WL WC WQ WR WB WF QB St Exit.then Exit.inBlock Exit.noGoto bodyPost roundPost beginK YR RG BM Calls B AgainD MeetD
/-! ## a plant that built made, as it lies -/
theorem built_plv {p : Plt.Plant} {am ai ap : Option Addr} {cm ci cp : Nat} {ds : List MD} {ys : List PD} {NM NI NP NX : List Ent} {TM TI TP : TypeId} (hM : OW TM 5 encMD (.slice am p.ms.length cm) ds NM) (hI : OW TI 3 encItem (.slice ai p.items.length ci) p.items NI) (hP : OW TP 6 encPD (.slice ap p.passes.length cp) ys NP)
    (hl : ds.length = p.ms.length ∧ ys.length = p.passes.length) (hX : Shw NX (fun w => ∀ (i : Nat) (d : MD) (m : Plt.Mach), ds[i]? = some d → p.ms[i]? = some m → MachV w d m)) (hY : Shw NX (fun w => ∀ (i : Nat) (d : PD) (y : Plt.Pass), ys[i]? = some d → p.passes[i]? = some y → PassV w d y)) :
    Shw (NM ++ (NI ++ (NP ++ NX))) (fun w => PlV w ⟨(am, p.ms.length, cm), (ai, p.items.length, ci), (ap, p.passes.length, cp), ds, ys⟩ p) := fun w0 w L L0 hr hw =>
  ⟨(Shw.left (Shw.ow encMD_len hM)) w0 w L L0 hr hw, (Shw.right (Shw.left (Shw.ow encItem_len hI))) w0 w L L0 hr hw, (Shw.right (Shw.right (Shw.left (Shw.ow encPD_len hP)))) w0 w L L0 hr hw, hl.1, hl.2,
    (Shw.right (Shw.right (Shw.right hX))) w0 w L L0 hr hw, (Shw.right (Shw.right (Shw.right hY))) w0 w L L0 hr hw⟩
def builtψ (p : Plt.Plant) (v : Value) (N : List Ent) : Prop := ∃ am cm ai ci ap cp ds ys, v = .agg #[.slice am p.ms.length cm, .slice ai p.items.length ci, .slice ap p.passes.length cp] ∧
  Shw N (fun w => PlV w ⟨(am, p.ms.length, cm), (ai, p.items.length, ci), (ap, p.passes.length, cp), ds, ys⟩ p) ∧ ∀ x ∈ N, x.own = true
/-- What the laws know of a plant that built made. -/
structure Nice (p : Plt.Plant) : Prop where
  valid : Plt.validF p = (0, 0)
  ms : 1 ≤ p.ms.length ∧ p.ms.length ≤ 3
  items : p.items.length ≤ 40
  passes : p.passes.length ≤ 6
theorem nice_built (x : Plt.Sk) : Nice (Plt.built x) :=
  ⟨Plt.built_valid x, Plt.bMs_len x, by show (Plt.bIs x).length ≤ 40; unfold Plt.bIs; rw [Plt.bIsN_len]; omega, by show (Plt.bAt (Plt.bMs x) (Plt.bIs x) x.ps (min x.ps.length 6)).2.length ≤ 6; rw [Plt.bAt_len]; omega⟩
end Go.Proofs.Ytkhaemjoekfhiaa
namespace Go.Sx.Plt
/-! ## the last run that has sorted an item -/
def lastI : Option Nat → Int
  | none => -1
  | some k => k
/-- The same, after the first n items of run k. -/
def keepsF (p : Plant) (x t : Int) (k : Nat) (r : Run) (n : Nat) : Int := if x ∈ r.items.take n ∧ sortedAt p x t k = true then (k : Int) else lastI (lastF p x t k)
theorem idx_items {p : Plant} (hn : (p.items.map Item.id).Nodup) {i : Nat} {y : Item} (h : p.items[i]? = some y) : idxF y.id (p.items.map Item.id) = some i := by
  refine idxF_at (fun j hj e => ?_) (by rw [List.getElem?_map, h]; rfl)
  obtain ⟨l1, f1⟩ := List.getElem?_eq_some_iff.1 e
  obtain ⟨l2, f2⟩ := List.getElem?_eq_some_iff.1 (show (p.items.map Item.id)[i]? = some y.id by rw [List.getElem?_map, h]; rfl)
  have := List.pairwise_iff_getElem.1 hn j i l1 l2 hj
  rw [f1, f2] at this
  exact this rfl
end Go.Sx.Plt
