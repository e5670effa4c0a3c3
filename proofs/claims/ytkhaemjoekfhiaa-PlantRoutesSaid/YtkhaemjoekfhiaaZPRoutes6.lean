/- A part of the proofs of this seat: a small logic of walks, plain laws, and what some of the program's functions compute, shown by walks through their code. Conditions: the hypotheses that each theorem names. -/
import Derived.Test.YtkhaemjoekfhiaaZPRoutes3
import Derived.Test.YtkhaemjoekfhiaaZPRoutes5
set_option linter.unusedSimpArgs false
set_option linter.unusedVariables false
set_option linter.unusedSectionVars false
namespace Go.Proofs.Ytkhaemjoekfhiaa
open Go Go.Sx Go.RowKit
section
variable {P : Program} {n : Nat} {D : List Deferred} {w0 : World} {F : List (Nat × Value)} {L L0 : List Ent} {Q : Exit → Act → World → Prop} {lq : List Oper} {fq mq : Nat} {r : Option Nat} {ops : Array Oper}
variable {d : Tmp} {ty : TypeId} {pos : String} {af : Array Edge} {rest : List Oper}
theorem o_call_pureV {f : FuncId} {fn : Func} [TC P f fn] {x : Operand} {caps : Array Value} {xs : List Operand} {vs : List Value} {ats : Array TypeId} {v : Value} (hx : ev F x = some (.func (.func f) #[] caps)) (hd : Nat.ble (d + 1) n = true) (hxs : Evs F xs vs)
    (hc : ∀ w, Rep w0 w L → Calls P f (vs.toArray ++ caps) w fun e w' => e = .returned v ∧ Below w.heap.size w w')
    (h : St n D w0 ((d, v) :: F) L (WL r P ops Q rest)) : St n D w0 F L (WL r P ops Q (⟨some d, .call ⟨.value x, xs.toArray, ats⟩, ty, pos, af, none⟩ :: rest)) :=
  o_call (x := x) (caps := caps) (Φ := fun w u w' => u = v ∧ Below w.heap.size w w') hx hd hxs (fun w hw => by
    refine (hc w hw).mono ?_
    rintro e w' ⟨rfl, hB⟩
    exact ⟨v, rfl, rfl, hB⟩) (fun w u hw a w' hΦ ha => by obtain ⟨rfl, hB⟩ := hΦ; exact h a w' ha (hw.grow hB))
theorem o_minE {x y : Operand} {k : IntKind} {m l v : Int} {ats : Array TypeId} (hx : ev F x = some (.int k m)) (hy : ev F y = some (.int k l)) (e : (if l < m then l else m) = v) (hd : Nat.ble (d + 1) n = true)
    (h : St n D w0 ((d, .int k v) :: F) L (WL r P ops Q rest)) : St n D w0 F L (WL r P ops Q (⟨some d, .call ⟨.builtin .min, #[x, y], ats⟩, ty, pos, af, none⟩ :: rest)) := o_min2 hx hy hd (by rw [e]; exact h)
theorem o_maxE {x y : Operand} {k : IntKind} {m l v : Int} {ats : Array TypeId} (hx : ev F x = some (.int k m)) (hy : ev F y = some (.int k l)) (e : (if m < l then l else m) = v) (hd : Nat.ble (d + 1) n = true)
    (h : St n D w0 ((d, .int k v) :: F) L (WL r P ops Q rest)) : St n D w0 F L (WL r P ops Q (⟨some d, .call ⟨.builtin .max, #[x, y], ats⟩, ty, pos, af, none⟩ :: rest)) := o_max2 hx hy hd (by rw [e]; exact h)
end
section
variable {P : Program} {n : Nat} {D : List Deferred} {w0 : World} {F : List (Nat × Value)} {L L' : List Ent} {J J1 : Made} {Φ : Specs} {X : Act → World → Prop} {kq : Nat} {ops : Array Oper}
variable {d : Tmp} {ty : TypeId} {pos : String} {af : Array Edge} {rest : List Oper}
theorem q_minE {x y : Operand} {k : IntKind} {m l v : Int} {ats : Array TypeId} (hx : ev F x = some (.int k m)) (hΦ : Φ kq = none) (hJ : SubJ ((anc ops).getD kq 0) J1 J) (hy : ev F y = some (.int k l)) (e : (if l < m then l else m) = v) (hd : Nat.ble (d + 1) n = true)
    (h : St n D w0 ((d, .int k v) :: F) L (WQ P ops w0 L Φ X (kq + 1) J rest)) : St n D w0 F L (WQ P ops w0 L Φ X kq J (⟨some d, .call ⟨.builtin .min, #[x, y], ats⟩, ty, pos, af, none⟩ :: rest)) := q_min2 hx hΦ hJ hy hd (by rw [e]; exact h)
theorem q_maxE {x y : Operand} {k : IntKind} {m l v : Int} {ats : Array TypeId} (hx : ev F x = some (.int k m)) (hΦ : Φ kq = none) (hJ : SubJ ((anc ops).getD kq 0) J1 J) (hy : ev F y = some (.int k l)) (e : (if m < l then l else m) = v) (hd : Nat.ble (d + 1) n = true)
    (h : St n D w0 ((d, .int k v) :: F) L (WQ P ops w0 L Φ X (kq + 1) J rest)) : St n D w0 F L (WQ P ops w0 L Φ X kq J (⟨some d, .call ⟨.builtin .max, #[x, y], ats⟩, ty, pos, af, none⟩ :: rest)) := q_max2 hx hΦ hJ hy hd (by rw [e]; exact h)
end
attribute [local irreducible] WL WC WQ WR WB WF QB St Exit.then Exit.inBlock Exit.noGoto bodyPost roundPost beginK YR RG BM Calls B AgainD MeetD
/-! ## shift.Make, one job -/
theorem running_is {j : Plt.Job} {m left z : Int} {b2 b8 br bj oj cj cr : Nat} {sr : List Value} (hz : (if j.rel > m ∨ left = 0 then -1 else 0) = z) (w : World) (h2 : w.heap[b2]? = some (Ce [.slice (some ⟨bj, oj, none⟩) 1 cj] 128)) (h8 : w.heap[b8]? = some (Ce [.slice (some ⟨br, 0, none⟩) 1 cr] 43)) (hr : w.heap[br]? = some (Ce ([left].flatMap encI ++ sr) 3)) (h : SV w 4 encJob (.slice (some ⟨bj, oj, none⟩) 1 cj) [j]) :
    Calls Try.prog 55 #[.int .i64 m, ptr b2, ptr b8] w fun e w' => e = .returned (.int .i64 z) ∧ Below w.heap.size w w' := by
  subst hz; exact running_calls w h2 h8 hr h
theorem row_start {b : Nat} (x : Int) : OW 3 1 encI (.slice (some ⟨b, 0, none⟩) (([x] : List Int).take 0).length 1) (([x] : List Int).take 0) [⟨b, Ce (([] : List Int).flatMap encI ++ [.int .i64 0]) 3, true⟩] :=
  OW.row (E := 3) (k := 1) (enc := encI) (b := b) (cap := 1) (xs := []) (s := [.int .i64 0]) (by simp) (by simp)
set_option maxHeartbeats 8000000 in
set_option maxRecDepth 100000 in
theorem smake_calls {jv sv : Value} {j : Plt.Job} {shifts : List Plt.Sh} (hal : Plt.allowedF [j] shifts = (0, 0)) (w : World) (hj : SV w 4 encJob jv [j]) (hs : SV w 2 encSh sv shifts) :
    Calls Try.prog 43 #[jv, sv] w fun e w' => ∃ v N, e = .returned v ∧ (∃ a c, v = .tuple #[.slice a (Plt.slicesF j.rel j.mins shifts).length c, .int .i64 0] ∧ OW 68 3 encSl (.slice a (Plt.slicesF j.rel j.mins shifts).length c) (Plt.slc3 j.id (Plt.slicesF j.rel j.mins shifts)) N ∧ ∀ x ∈ N, x.own = true) ∧ Rep w w' N ∧ ∀ x ∈ N, x.own = true := by
  obtain ⟨hjok, hsl, hsr⟩ := Plt.allowed_ok hal
  unfold Plt.Job.ok at hjok
  obtain ⟨⟨hjid, hjm⟩, ⟨hjr0, hjr⟩, hjd⟩ := hjok
  obtain ⟨aj, cj, rfl, hcj, hopj⟩ := hj.open
  obtain ⟨bj, oj, ccj, ej, fzj, rfl, hkj, hptj⟩ := hopj (by simp)
  have gJ : ∀ k u, ([.int .i64 j.id, .int .i64 j.rel, .int .i64 j.due, .int .i64 j.mins] : List Value)[k]? = some u → ccj[oj + 0 * 4 + k]? = some u := hptj.get (m := 0) rfl
  have gJ0 : ccj[oj + 0 * 4]? = some (.int .i64 j.id) := gJ 0 _ rfl
  simp only [List.length_cons, List.length_nil] at hj hcj ⊢
  obtain ⟨as_, cs_, rfl, hcs, hops⟩ := hs.open
  refine f_enter2 Try.func43 rfl Try.ntmps43 rfl (Rep.start w) ?_
  repeat' (first | ((with_reducible apply c_cond_f); exact rfl; exact decide_eq_false (by omega)) | ((first | ((with_reducible apply o_call_pure (f := 54)); exact rfl) | ((with_reducible apply q_call_pure (f := 54)); exact rfl; kernel_rfl; exact rfl; exact sJ_)); exact eV_; exact (fun w hw => allowed_is hal w (hj.keep hw (by exact aO_)) (hs.keep hw (by exact aO_)))) | ((with_reducible first | apply o_move | apply o_assign | apply o_faddr0); exact rfl; exact rfl) | ((with_reducible apply gdo_load); first | refine wo_load (h := ?_) | refine wo_loadAll (h := ?_) | refine wo_loadC (h := ?_) | refine wo_ldV (h := ?_) | refine wo_ldF (h := ?_)) | ((with_reducible first | apply o_lss | apply o_geq | apply o_eql | apply o_neq | apply o_extract | apply o_min2); exact rfl; exact rfl; exact rfl) | ((with_reducible apply o_alloc); exact rfl; intro _) | ((with_reducible apply o_box); exact rfl; exact rfl; exact rfl; intro _) | ((with_reducible apply gdo_store); first | refine wo_store1 (h := ?_) | refine wo_storeA (h := ?_)) | ((with_reducible apply o_len); infer_instance; exact rfl; exact rfl) | ((with_reducible apply gdo_makeSlice); refine wo_makeSlice (h := fun _ => ?_)) | ((with_reducible first | apply c_seq | apply c_block | apply c_region | apply c_nil | apply c_ret | apply c_exit | apply c_scope | apply c_label | apply c_skip)) | ((with_reducible first | apply e_then | apply e_then_ret | apply e_then_exit | apply e_in | apply e_in_ret | apply e_in_same | apply e_ng_ret)))
  rename_i b2 bx b8
  apply c_loop (σ := Nat × (Option Addr × Nat) × List Ent) (Fs := fun t => [(34, .int .i64 t.1), (33, .int .i64 1), (32, (.slice (some ⟨bj, oj, none⟩) 1 cj)), (8, ptr b8), (2, ptr b2), (1, .slice as_ shifts.length cs_)])
    (Ls := fun t => ⟨b8, Ce [.slice t.2.1.1 (([j.mins] : List Int).take t.1).length t.2.1.2] 43, true⟩ :: (t.2.2 ++ (⟨b2, Ce [(.slice (some ⟨bj, oj, none⟩) 1 cj)] 128, true⟩ :: [])))
    (I := fun t => t.1 ≤ 1 ∧ OW 3 1 encI (.slice t.2.1.1 (([j.mins] : List Int).take t.1).length t.2.1.2) (([j.mins] : List Int).take t.1) t.2.2) (μ := fun t => 1 - t.1) (s0 := (0, (some ⟨bx, 0, none⟩, 1), [⟨bx, Ce (([] : List Int).flatMap encI ++ [.int .i64 0]) 3, true⟩]))
  · exact ⟨Nat.zero_le _, row_start _⟩
  · exact fS_
  · exact hS_
  rintro ⟨i, ⟨ar, cr⟩, NR⟩ ⟨hi, hO⟩
  dsimp only at hi hO ⊢
  have oR := hO.own
  by_cases hlt : i < 1
  · obtain rfl : i = 0 := by omega
    have e1 : ([j.mins] : List Int).take 1 = ([j.mins] : List Int).take 0 ++ [j.mins] := rfl
    have hRl : (([j.mins] : List Int).take 0).length ≤ 1 := by simp
    generalize ([j.mins] : List Int).take 0 = R at hO e1 hRl ⊢
    as_aux_lemma =>
      repeat' (first | ((with_reducible apply c_cond_t); exact rfl; exact decide_eq_true (by omega)) | ((with_reducible first | apply o_idx (m := 0) | apply q_idx (m := 0)); infer_instance; infer_instance; exact rfl; exact rfl; omega; exact rfl; omega) | (apply o_appH (enc := encI) (ys := [(j.mins)]); infer_instance; infer_instance; infer_instance; exact rfl; exact encI_len; exact encI_one; exact rfl; exact rfl; exact rfl; assumption; exact rL_; (exact fun w hw => SV.lit [(j.mins)] encI_len hw (by exact aT_) rfl rfl (by decide)); (first | decide | (constructor <;> (try simp only [List.length_cons, List.length_nil]) <;> omega) | (constructor <;> simp <;> omega)); intro a_ cp_ N_ hO_; have oN_ := hO_.own; (try simp only [List.nil_append, List.append_assoc] at hO_); (try simp only [List.append_eq, List.append_assoc, List.cons_append, List.nil_append])) | ((with_reducible first | apply o_move | apply o_assign | apply o_faddr0); exact rfl; exact rfl) | ((with_reducible apply gdo_load); first | refine wo_load (h := ?_) | refine wo_loadAll (h := ?_) | refine wo_loadC (h := ?_) | refine wo_ldV (h := ?_) | refine wo_ldF (h := ?_)) | ((with_reducible first | apply o_lss | apply o_geq | apply o_eql | apply o_neq | apply o_extract | apply o_min2); exact rfl; exact rfl; exact rfl) | ((with_reducible first | apply o_add | apply o_sub); exact rfl; exact rfl; exact rfl; (constructor <;> omega)) | ((with_reducible apply o_alloc); exact rfl; intro _) | ((with_reducible apply gdo_store); first | refine wo_store1 (h := ?_) | refine wo_storeA (h := ?_)) | ((with_reducible apply gdo_buildSlice); refine wo_buildSlice (h := fun _ => ?_)) | ((with_reducible first | apply c_seq | apply c_block | apply c_region | apply c_nil | apply c_ret | apply c_exit | apply c_scope | apply c_label | apply c_skip)) | ((with_reducible first | apply e_then | apply e_then_ret | apply e_then_exit | apply e_in | apply e_in_ret | apply e_in_same | apply e_ng_ret)))
      refine l_again (1, (a_, cp_), N_) ⟨by dsimp only; omega, by dsimp only; rw [e1]; exact hO_⟩ (by dsimp only; omega) ?_ ?_
      · exact fS_
      · dsimp only; rw [e1]; exact hS_
  obtain rfl : i = 1 := by omega
  rw [show ([j.mins] : List Int).take 1 = [j.mins] from rfl] at hO ⊢
  obtain ⟨br, sr, rfl, rfl⟩ := OW.some hO (by simp)
  simp only [List.length_cons, List.length_nil] at hO ⊢
  repeat' (first | ((with_reducible apply c_cond_f); exact rfl; exact decide_eq_false (by omega)) | ((with_reducible first | apply o_move | apply o_assign | apply o_faddr0); exact rfl; exact rfl) | ((with_reducible first | apply o_lss | apply o_geq | apply o_eql | apply o_neq | apply o_extract | apply o_min2); exact rfl; exact rfl; exact rfl) | ((with_reducible apply o_len); infer_instance; exact rfl; exact rfl) | ((with_reducible apply gdo_makeFunc); refine wo_func (h := ?_)) | ((with_reducible first | apply c_seq | apply c_block | apply c_region | apply c_nil | apply c_ret | apply c_exit | apply c_scope | apply c_label | apply c_skip)) | ((with_reducible first | apply e_then | apply e_then_ret | apply e_then_exit | apply e_in | apply e_in_ret | apply e_in_same | apply e_ng_ret)))
  apply c_loop (σ := Nat × Int × List (Int × Int) × (Option Addr × Nat) × List Ent) (Fs := fun t => [(47, .int .i64 t.1), (46, .int .i64 shifts.length), (45, .slice as_ shifts.length cs_), (12, .slice t.2.2.2.1.1 (Plt.slc3 j.id t.2.2.1).length t.2.2.2.1.2), (11, .func (.func 55) #[] #[ptr b2, ptr b8]), (8, ptr b8), (2, ptr b2)])
    (Ls := fun t => ⟨b8, Ce [.slice (some ⟨br, 0, none⟩) 1 cr] 43, true⟩ :: ⟨br, Ce ([t.2.1].flatMap encI ++ sr) 3, true⟩ :: ⟨b2, Ce [(.slice (some ⟨bj, oj, none⟩) 1 cj)] 128, true⟩ :: (t.2.2.2.2 ++ []))
    (I := fun t => (t.1 ≤ shifts.length ∧ t.2.2.1.length ≤ t.1) ∧ (0 ≤ t.2.1 ∧ t.2.1 ≤ 100000) ∧ Plt.slicesF j.rel j.mins shifts = t.2.2.1 ++ Plt.slicesF j.rel t.2.1 (shifts.drop t.1) ∧ OW 68 3 encSl (.slice t.2.2.2.1.1 (Plt.slc3 j.id t.2.2.1).length t.2.2.2.1.2) (Plt.slc3 j.id t.2.2.1) t.2.2.2.2)
    (μ := fun t => shifts.length - t.1) (s0 := (0, j.mins, [], (none, 0), []))
  · exact ⟨⟨Nat.zero_le _, Nat.zero_le _⟩, by dsimp only; omega, rfl, OW.nil⟩
  · exact fS_
  · exact hS_
  rintro ⟨i, left0, plan0, ⟨ap, cp⟩, NP⟩ ⟨⟨hi, hpl⟩, hl0, hsf, hP⟩
  dsimp only at hi hpl hl0 hsf hP ⊢
  have oP := hP.own
  have hsll := Plt.slc3_len j.id plan0
  by_cases hlt : i < shifts.length
  · obtain ⟨⟨f, t⟩, hx⟩ : ∃ s, shifts[i]? = some s := ⟨_, List.getElem?_eq_getElem hlt⟩
    obtain ⟨bs, os, ccs, es, fzs, rfl, hks, hpts⟩ := hops (by omega)
    have g1 : ∀ k u, ([.int .i64 f, .int .i64 t] : List Value)[k]? = some u → ccs[os + i * 2 + k]? = some u := hpts.get hx
    have hft := hsr _ (List.mem_of_getElem? hx)
    dsimp only at hft
    rw [drop_at hx] at hsf
    repeat' (first | ((with_reducible apply c_cond_t); exact rfl; exact decide_eq_true (by omega)) | ((with_reducible first | apply o_move | apply o_assign | apply o_faddr0); exact rfl; exact rfl) | ((with_reducible apply gdo_load); first | refine wo_load (h := ?_) | refine wo_loadAll (h := ?_) | refine wo_loadC (h := ?_) | refine wo_ldV (h := ?_) | refine wo_ldF (h := ?_)) | ((with_reducible first | apply o_lss | apply o_geq | apply o_eql | apply o_neq | apply o_extract | apply o_min2); exact rfl; exact rfl; exact rfl) | ((with_reducible apply o_alloc); exact rfl; intro _) | ((with_reducible apply gdo_store); first | refine wo_store1 (h := ?_) | refine wo_storeA (h := ?_)) | ((with_reducible apply o_len); infer_instance; exact rfl; exact rfl) | ((with_reducible apply o_idx); infer_instance; infer_instance; exact rfl; exact rfl; (first | exact rfl | omega); exact rfl; (first | assumption | omega | decide)) | ((with_reducible first | apply c_seq | apply c_block | apply c_region | apply c_nil | apply c_ret | apply c_exit | apply c_scope | apply c_label | apply c_skip)) | ((with_reducible first | apply e_then | apply e_then_ret | apply e_then_exit | apply e_in | apply e_in_ret | apply e_in_same | apply e_ng_ret)))
    rename_i b14
    apply c_loop (σ := Bool × Int × Int × List (Int × Int) × (Option Addr × Nat) × List Ent)
      (Fs := fun q => [(16, .int .i64 q.2.1), (15, .int .i64 (Plt.slc3 j.id plan0).length), (14, ptr b14), (47, .int .i64 i), (46, .int .i64 shifts.length), (45, .slice (some ⟨bs, os, none⟩) shifts.length cs_), (12, .slice q.2.2.2.2.1.1 (Plt.slc3 j.id q.2.2.2.1).length q.2.2.2.2.1.2), (11, .func (.func 55) #[] #[ptr b2, ptr b8]), (8, ptr b8), (2, ptr b2)])
      (Ls := fun q => ⟨b14, Ce [.int .i64 f, .int .i64 t] 70, true⟩ :: ⟨b8, Ce [.slice (some ⟨br, 0, none⟩) 1 cr] 43, true⟩ :: ⟨br, Ce ([q.2.2.1].flatMap encI ++ sr) 3, true⟩ :: ⟨b2, Ce [(.slice (some ⟨bj, oj, none⟩) 1 cj)] 128, true⟩ :: (q.2.2.2.2.2 ++ []))
      (I := fun q => (q.1 = false → (q.2.2.2.1 = plan0 ∧ q.2.2.1 = left0) ∧ (q.2.1 < t ∧ f ≤ q.2.1) ∧ max q.2.1 j.rel = max f j.rel) ∧ (q.1 = true → (left0 ≠ 0 ∧ max f j.rel < t) ∧ q.2.1 = min t (max f j.rel + left0) ∧ q.2.2.2.1 = plan0 ++ [(max f j.rel, q.2.1)] ∧ q.2.2.1 = left0 - (q.2.1 - max f j.rel)) ∧ OW 68 3 encSl (.slice q.2.2.2.2.1.1 (Plt.slc3 j.id q.2.2.2.1).length q.2.2.2.2.1.2) (Plt.slc3 j.id q.2.2.2.1) q.2.2.2.2.2)
      (μ := fun q => (t - q.2.1).toNat) (s0 := (false, f, left0, plan0, (ap, cp), NP))
    · exact ⟨fun _ => ⟨⟨rfl, rfl⟩, by dsimp only; omega, rfl⟩, (fun h => by cases h), hP⟩
    · exact fS_
    · exact hS_
    rintro ⟨ph, m, left, plan, ⟨aq, cq⟩, NQ⟩ ⟨h0, h1, hQ⟩
    dsimp only at h0 h1 hQ ⊢
    have oQ := hQ.own
    have gL : (([left].flatMap encI ++ sr) : List Value).toArray[0 + 0 * 1]? = some (.int .i64 left) := by simp [encI]
    have gL0 : (([left].flatMap encI ++ sr) : List Value).toArray[0]? = some (.int .i64 left) := by simp [encI]
    cases ph with
    | true =>
      obtain ⟨⟨hn0, hmt⟩, hm, hpe, hle⟩ := h1 rfl
      clear h0 h1
      have hskip : ¬ (left0 = 0 ∨ t ≤ max f j.rel) := by omega
      rw [Plt.slices_take hskip] at hsf
      dsimp only at hsf
      rw [← hm, ← hle] at hsf
      have hsf2 : Plt.slicesF j.rel j.mins shifts = plan ++ Plt.slicesF j.rel left (shifts.drop (i + 1)) := by rw [hsf, hpe, List.append_assoc]; rfl
      have hpl2 : plan.length ≤ i + 1 := by rw [hpe]; simp; omega
      by_cases hmt2 : m < t
      · have hl00 : left = 0 := by omega
        have hrr : (1051898400 : Int) = if j.rel > m then j.rel else 1051898400 := by rw [if_neg (by omega)]
        have hrun : (if j.rel > m ∨ left = 0 then (-1 : Int) else 0) = -1 := if_pos (.inr hl00)
        obtain ⟨u, hu⟩ : ∃ u, t = u := ⟨_, rfl⟩
        have hmin1 : (if (1051898400 : Int) < t then 1051898400 else t) = u := by rw [if_neg (by omega), hu]
        have hmin2 := hmin1
        as_aux_lemma =>
          repeat' (first | ((with_reducible apply c_cond_t); exact rfl; exact decide_eq_true (by omega)) | ((with_reducible apply q_minE (v := u)); exact rfl; exact rfl; exact sJ_; exact rfl; (first | exact hmin1 | exact hmin2); exact rfl) | ((first | ((with_reducible apply o_call_pure (f := 57)); exact rfl) | ((with_reducible apply q_call_pure (f := 57)); exact rfl; kernel_rfl; exact rfl; exact sJ_)); exact eV_; exact (fun w hw => release_calls hrr hjr w (hj.keep hw (by exact aO_)))) | ((with_reducible apply o_call_pureV (f := 55)); exact rfl; exact rfl; exact eV_; (intro w hw; show Calls Try.prog 55 #[.int .i64 m, ptr b2, ptr b8] w _; exact running_is hrun w (hw.at (by exact aT_)) (hw.at (by exact aT_)) (hw.at (by exact aT_)) (hj.keep hw (by exact aO_)))) | ((with_reducible first | apply o_move | apply o_assign | apply o_faddr0); exact rfl; exact rfl) | ((with_reducible apply gdo_load); first | refine wo_load (h := ?_) | refine wo_loadAll (h := ?_) | refine wo_loadC (h := ?_) | refine wo_ldV (h := ?_) | refine wo_ldF (h := ?_)) | ((with_reducible first | apply o_lss | apply o_geq | apply o_eql | apply o_neq | apply o_extract | apply o_min2); exact rfl; exact rfl; exact rfl) | ((with_reducible first | apply o_add | apply o_sub); exact rfl; exact rfl; exact rfl; (constructor <;> omega)) | ((with_reducible first | apply c_seq | apply c_block | apply c_region | apply c_nil | apply c_ret | apply c_exit | apply c_scope | apply c_label | apply c_skip)) | ((with_reducible first | apply e_then | apply e_then_ret | apply e_then_exit | apply e_in | apply e_in_ret | apply e_in_same | apply e_ng_ret)) | ((with_reducible apply e_in_other); exact rfl) | ((with_reducible apply c_regionD0 (id := 18) []); kernel_rfl; kernel_rfl) | ((with_reducible apply q_nil); try simp only [ents, List.cons_append, List.nil_append]) | ((with_reducible first | apply q_move | apply q_assign | apply q_faddr0); exact rfl; exact rfl) | ((with_reducible apply gdq_load); first | refine wq_load (h := ?_) | refine wq_loadAll (h := ?_) | refine wq_loadC (h := ?_) | refine wq_ldF (h := ?_)))
          refine l_again (i + 1, left, plan, (aq, cq), NQ) ⟨⟨by dsimp only; omega, hpl2⟩, by dsimp only; omega, hsf2, hQ⟩ (by dsimp only; omega) ?_ ?_
          · exact fS_
          · exact hS_
      · as_aux_lemma =>
          repeat' (first | ((with_reducible apply c_cond_f); exact rfl; exact decide_eq_false (by omega)) | ((with_reducible first | apply o_move | apply o_assign | apply o_faddr0); exact rfl; exact rfl) | ((with_reducible apply gdo_load); first | refine wo_load (h := ?_) | refine wo_loadAll (h := ?_) | refine wo_loadC (h := ?_) | refine wo_ldV (h := ?_) | refine wo_ldF (h := ?_)) | ((with_reducible first | apply o_lss | apply o_geq | apply o_eql | apply o_neq | apply o_extract | apply o_min2); exact rfl; exact rfl; exact rfl) | ((with_reducible first | apply o_add | apply o_sub); exact rfl; exact rfl; exact rfl; (constructor <;> omega)) | ((with_reducible first | apply c_seq | apply c_block | apply c_region | apply c_nil | apply c_ret | apply c_exit | apply c_scope | apply c_label | apply c_skip)) | ((with_reducible first | apply e_then | apply e_then_ret | apply e_then_exit | apply e_in | apply e_in_ret | apply e_in_same | apply e_ng_ret)))
          refine l_again (i + 1, left, plan, (aq, cq), NQ) ⟨⟨by dsimp only; omega, hpl2⟩, by dsimp only; omega, hsf2, hQ⟩ (by dsimp only; omega) ?_ ?_
          · exact fS_
          · exact hS_
    | false =>
      obtain ⟨⟨hpe, hle⟩, ⟨hmt, hfm⟩, hmx⟩ := h0 rfl
      clear h0 h1
      subst hpe hle
      have hnext : (left = 0 ∨ t ≤ max f j.rel) → Plt.slicesF j.rel j.mins shifts = plan ++ Plt.slicesF j.rel left (shifts.drop (i + 1)) := fun h => by rw [hsf, Plt.slices_skip h]
      by_cases hrm : j.rel > m
      · have hrr : j.rel = if j.rel > m then j.rel else 1051898400 := by rw [if_pos hrm]
        have hrun : (if j.rel > m ∨ left = 0 then (-1 : Int) else 0) = -1 := if_pos (.inl hrm)
        obtain ⟨u, hu⟩ : ∃ u, (if j.rel < t then j.rel else t) = u := ⟨_, rfl⟩
        have hmin1 := hu
        have hmin2 := hu
        by_cases hrt : j.rel < t
        · rw [if_pos hrt] at hu
          as_aux_lemma =>
            repeat' (first | ((with_reducible apply c_cond_t); exact rfl; exact decide_eq_true (by omega)) | ((with_reducible apply c_cond_f); exact rfl; exact decide_eq_false (by omega)) | ((with_reducible apply q_minE (v := u)); exact rfl; exact rfl; exact sJ_; exact rfl; (first | exact hmin1 | exact hmin2); exact rfl) | ((first | ((with_reducible apply o_call_pure (f := 57)); exact rfl) | ((with_reducible apply q_call_pure (f := 57)); exact rfl; kernel_rfl; exact rfl; exact sJ_)); exact eV_; exact (fun w hw => release_calls hrr hjr w (hj.keep hw (by exact aO_)))) | ((with_reducible apply o_call_pureV (f := 55)); exact rfl; exact rfl; exact eV_; (intro w hw; show Calls Try.prog 55 #[.int .i64 m, ptr b2, ptr b8] w _; exact running_is hrun w (hw.at (by exact aT_)) (hw.at (by exact aT_)) (hw.at (by exact aT_)) (hj.keep hw (by exact aO_)))) | ((with_reducible first | apply o_move | apply o_assign | apply o_faddr0); exact rfl; exact rfl) | ((with_reducible apply gdo_load); first | refine wo_load (h := ?_) | refine wo_loadAll (h := ?_) | refine wo_loadC (h := ?_) | refine wo_ldV (h := ?_) | refine wo_ldF (h := ?_)) | ((with_reducible first | apply o_lss | apply o_geq | apply o_eql | apply o_neq | apply o_extract | apply o_min2); exact rfl; exact rfl; exact rfl) | ((with_reducible first | apply c_seq | apply c_block | apply c_region | apply c_nil | apply c_ret | apply c_exit | apply c_scope | apply c_label | apply c_skip)) | ((with_reducible first | apply e_then | apply e_then_ret | apply e_then_exit | apply e_in | apply e_in_ret | apply e_in_same | apply e_ng_ret)) | ((with_reducible apply c_regionD0 (id := 18) []); kernel_rfl; kernel_rfl) | ((with_reducible apply q_nil); try simp only [ents, List.cons_append, List.nil_append]) | ((with_reducible first | apply q_move | apply q_assign | apply q_faddr0); exact rfl; exact rfl) | ((with_reducible apply gdq_load); first | refine wq_load (h := ?_) | refine wq_loadAll (h := ?_) | refine wq_loadC (h := ?_) | refine wq_ldF (h := ?_)))
            refine l_again (false, u, left, plan, (aq, cq), NQ) ⟨fun _ => ⟨⟨rfl, rfl⟩, by dsimp only; omega, by dsimp only; omega⟩, (fun h => by cases h), hQ⟩ (by dsimp only; omega) ?_ ?_
            · exact fS_
            · exact hS_
        · rw [if_neg hrt] at hu
          as_aux_lemma =>
            repeat' (first | ((with_reducible apply c_cond_t); exact rfl; exact decide_eq_true (by omega)) | ((with_reducible apply q_minE (v := u)); exact rfl; exact rfl; exact sJ_; exact rfl; (first | exact hmin1 | exact hmin2); exact rfl) | ((first | ((with_reducible apply o_call_pure (f := 57)); exact rfl) | ((with_reducible apply q_call_pure (f := 57)); exact rfl; kernel_rfl; exact rfl; exact sJ_)); exact eV_; exact (fun w hw => release_calls hrr hjr w (hj.keep hw (by exact aO_)))) | ((with_reducible apply o_call_pureV (f := 55)); exact rfl; exact rfl; exact eV_; (intro w hw; show Calls Try.prog 55 #[.int .i64 m, ptr b2, ptr b8] w _; exact running_is hrun w (hw.at (by exact aT_)) (hw.at (by exact aT_)) (hw.at (by exact aT_)) (hj.keep hw (by exact aO_)))) | ((with_reducible first | apply o_move | apply o_assign | apply o_faddr0); exact rfl; exact rfl) | ((with_reducible apply gdo_load); first | refine wo_load (h := ?_) | refine wo_loadAll (h := ?_) | refine wo_loadC (h := ?_) | refine wo_ldV (h := ?_) | refine wo_ldF (h := ?_)) | ((with_reducible first | apply o_lss | apply o_geq | apply o_eql | apply o_neq | apply o_extract | apply o_min2); exact rfl; exact rfl; exact rfl) | ((with_reducible first | apply o_add | apply o_sub); exact rfl; exact rfl; exact rfl; (constructor <;> omega)) | ((with_reducible first | apply c_seq | apply c_block | apply c_region | apply c_nil | apply c_ret | apply c_exit | apply c_scope | apply c_label | apply c_skip)) | ((with_reducible first | apply e_then | apply e_then_ret | apply e_then_exit | apply e_in | apply e_in_ret | apply e_in_same | apply e_ng_ret)) | ((with_reducible apply e_in_other); exact rfl) | ((with_reducible apply c_regionD0 (id := 18) []); kernel_rfl; kernel_rfl) | ((with_reducible apply q_nil); try simp only [ents, List.cons_append, List.nil_append]) | ((with_reducible first | apply q_move | apply q_assign | apply q_faddr0); exact rfl; exact rfl) | ((with_reducible apply gdq_load); first | refine wq_load (h := ?_) | refine wq_loadAll (h := ?_) | refine wq_loadC (h := ?_) | refine wq_ldF (h := ?_)))
            refine l_again (i + 1, left, plan, (aq, cq), NQ) ⟨⟨by dsimp only; omega, by dsimp only; omega⟩, by dsimp only; omega, hnext (.inr (by omega)), hQ⟩ (by dsimp only; omega) ?_ ?_
            · exact fS_
            · exact hS_
      have hrr : (1051898400 : Int) = if j.rel > m then j.rel else 1051898400 := by rw [if_neg hrm]
      by_cases hl00 : left = 0
      · have hrun : (if j.rel > m ∨ left = 0 then (-1 : Int) else 0) = -1 := if_pos (.inr hl00)
        obtain ⟨u, hu⟩ : ∃ u, t = u := ⟨_, rfl⟩
        have hmin1 : (if (1051898400 : Int) < t then 1051898400 else t) = u := by rw [if_neg (by omega), hu]
        have hmin2 := hmin1
        as_aux_lemma =>
          repeat' (first | ((with_reducible apply c_cond_t); exact rfl; exact decide_eq_true (by omega)) | ((with_reducible apply q_minE (v := u)); exact rfl; exact rfl; exact sJ_; exact rfl; (first | exact hmin1 | exact hmin2); exact rfl) | ((first | ((with_reducible apply o_call_pure (f := 57)); exact rfl) | ((with_reducible apply q_call_pure (f := 57)); exact rfl; kernel_rfl; exact rfl; exact sJ_)); exact eV_; exact (fun w hw => release_calls hrr hjr w (hj.keep hw (by exact aO_)))) | ((with_reducible apply o_call_pureV (f := 55)); exact rfl; exact rfl; exact eV_; (intro w hw; show Calls Try.prog 55 #[.int .i64 m, ptr b2, ptr b8] w _; exact running_is hrun w (hw.at (by exact aT_)) (hw.at (by exact aT_)) (hw.at (by exact aT_)) (hj.keep hw (by exact aO_)))) | ((with_reducible first | apply o_move | apply o_assign | apply o_faddr0); exact rfl; exact rfl) | ((with_reducible apply gdo_load); first | refine wo_load (h := ?_) | refine wo_loadAll (h := ?_) | refine wo_loadC (h := ?_) | refine wo_ldV (h := ?_) | refine wo_ldF (h := ?_)) | ((with_reducible first | apply o_lss | apply o_geq | apply o_eql | apply o_neq | apply o_extract | apply o_min2); exact rfl; exact rfl; exact rfl) | ((with_reducible first | apply o_add | apply o_sub); exact rfl; exact rfl; exact rfl; (constructor <;> omega)) | ((with_reducible first | apply c_seq | apply c_block | apply c_region | apply c_nil | apply c_ret | apply c_exit | apply c_scope | apply c_label | apply c_skip)) | ((with_reducible first | apply e_then | apply e_then_ret | apply e_then_exit | apply e_in | apply e_in_ret | apply e_in_same | apply e_ng_ret)) | ((with_reducible apply e_in_other); exact rfl) | ((with_reducible apply c_regionD0 (id := 18) []); kernel_rfl; kernel_rfl) | ((with_reducible apply q_nil); try simp only [ents, List.cons_append, List.nil_append]) | ((with_reducible first | apply q_move | apply q_assign | apply q_faddr0); exact rfl; exact rfl) | ((with_reducible apply gdq_load); first | refine wq_load (h := ?_) | refine wq_loadAll (h := ?_) | refine wq_loadC (h := ?_) | refine wq_ldF (h := ?_)))
          refine l_again (i + 1, left, plan, (aq, cq), NQ) ⟨⟨by dsimp only; omega, by dsimp only; omega⟩, by dsimp only; omega, hnext (.inl hl00), hQ⟩ (by dsimp only; omega) ?_ ?_
          · exact fS_
          · exact hS_
      have hrun : (if j.rel > m ∨ left = 0 then (-1 : Int) else 0) = 0 := if_neg (by omega)
      have hmin0 : (if (1051898400 : Int) < t then 1051898400 else t) = t := if_neg (by omega)
      obtain ⟨u, hu⟩ : ∃ u, (if m + left < t then m + left else t) = u := ⟨_, rfl⟩
      have hub : m < u ∧ u ≤ t ∧ u ≤ m + left := by split at hu <;> omega
      have hum : u = min t (max f j.rel + left) := by split at hu <;> omega
      have hsn := Plt.slc3_snoc j.id plan (m, u)
      dsimp only at hsn
      have hslb : (Plt.slc3 j.id plan).length ≤ 200 := by omega
      have hlast : ((Plt.slc3 j.id plan).length : Int) - 1 < (Plt.slc3 j.id plan).length := by omega
      generalize Plt.slc3 j.id plan = S3 at hQ hP hsn hslb hlast hsll ⊢
      as_aux_lemma =>
        repeat' (first | ((with_reducible apply c_cond_t); exact rfl; exact decide_eq_true (by omega)) | ((with_reducible apply c_cond_f); exact rfl; exact decide_eq_false (by omega)) | ((with_reducible first | apply o_idx (m := 0) | apply q_idx (m := 0)); infer_instance; infer_instance; exact rfl; exact rfl; omega; exact rfl; omega) | ((with_reducible apply q_minE (v := t)); exact rfl; exact rfl; exact sJ_; exact rfl; exact hmin0; exact rfl) | ((with_reducible apply o_minE (v := u)); exact rfl; exact rfl; exact hu; exact rfl) | ((first | ((with_reducible apply o_call_pure (f := 57)); exact rfl) | ((with_reducible apply q_call_pure (f := 57)); exact rfl; kernel_rfl; exact rfl; exact sJ_)); exact eV_; exact (fun w hw => release_calls hrr hjr w (hj.keep hw (by exact aO_)))) | ((with_reducible apply o_call_pureV (f := 55)); exact rfl; exact rfl; exact eV_; (intro w hw; show Calls Try.prog 55 #[.int .i64 m, ptr b2, ptr b8] w _; exact running_is hrun w (hw.at (by exact aT_)) (hw.at (by exact aT_)) (hw.at (by exact aT_)) (hj.keep hw (by exact aO_)))) | (apply o_appH (enc := encSl) (ys := [((j.id, m, u))]); infer_instance; infer_instance; infer_instance; exact rfl; exact encSl_len; exact encSl_one; exact rfl; exact rfl; exact rfl; assumption; exact rL_; (exact fun w hw => SV.lit [((j.id, m, u))] encSl_len hw (by exact aT_) rfl rfl (by decide)); (first | decide | (constructor <;> (try simp only [List.length_cons, List.length_nil]) <;> omega) | (constructor <;> simp <;> omega)); intro a_ cp_ N_ hO_; have oN_ := hO_.own; (try simp only [List.nil_append, List.append_assoc] at hO_); (try simp only [List.append_eq, List.append_assoc, List.cons_append, List.nil_append])) | (apply o_storeT (enc := encI) (k := 1) (m := 0) (o := 0) (xs := ([left])) (left - (u - m)) (show ([left] : List Int).set 0 (left - (u - m)) = [left - (u - m)] from rfl); infer_instance; exact rfl; exact rfl; exact aT_; exact (show ([left] : List Int)[0]? = some left from rfl); exact encI_len; omega; exact rfl; exact rfl; (intro u hu; simp at hu; first | (subst hu; rfl) | (rcases hu with rfl | rfl <;> rfl) | (rcases hu with rfl | rfl | rfl <;> rfl) | (rcases hu with rfl | rfl | rfl | rfl <;> rfl)); (first | decide | exact Nat.le_refl _ | (simp only [List.length_cons, List.length_nil]; decide)); exact rfl; exact uP_) | ((with_reducible first | apply o_move | apply o_assign | apply o_faddr0); exact rfl; exact rfl) | ((with_reducible apply o_faddr); exact rfl; exact rfl) | ((with_reducible apply gdo_load); first | refine wo_load (h := ?_) | refine wo_loadAll (h := ?_) | refine wo_loadC (h := ?_) | refine wo_ldV (h := ?_) | refine wo_ldF (h := ?_)) | ((with_reducible first | apply o_lss | apply o_geq | apply o_eql | apply o_neq | apply o_extract | apply o_min2); exact rfl; exact rfl; exact rfl) | ((with_reducible first | apply o_add | apply o_sub); exact rfl; exact rfl; exact rfl; (constructor <;> omega)) | ((with_reducible apply gdo_build); first | refine wo_build (h := ?_)) | ((with_reducible apply o_len); infer_instance; exact rfl; exact rfl) | ((with_reducible apply gdo_buildSlice); refine wo_buildSlice (h := fun _ => ?_)) | ((with_reducible first | apply c_seq | apply c_block | apply c_region | apply c_nil | apply c_ret | apply c_exit | apply c_scope | apply c_label | apply c_skip)) | ((with_reducible apply c_cond_f); exact rfl; exact fF_) | ((with_reducible first | apply e_then | apply e_then_ret | apply e_then_exit | apply e_in | apply e_in_ret | apply e_in_same | apply e_ng_ret)) | ((with_reducible apply c_regionD0 (id := 18) []); kernel_rfl; kernel_rfl) | ((with_reducible apply c_regionD0 (id := 26) []); kernel_rfl; kernel_rfl) | ((with_reducible apply q_nil); try simp only [ents, List.cons_append, List.nil_append]) | ((with_reducible first | apply q_move | apply q_assign | apply q_faddr0); exact rfl; exact rfl) | ((with_reducible apply gdq_load); first | refine wq_load (h := ?_) | refine wq_loadAll (h := ?_) | refine wq_loadC (h := ?_) | refine wq_ldF (h := ?_)) | ((with_reducible first | apply q_lss | apply q_geq | apply q_neq | apply q_extract); exact rfl; exact rfl; exact rfl) | ((with_reducible apply q_pick_f); exact rfl; exact fF_; exact rfl; exact rfl) | ((with_reducible apply h_skip); exact rfl; exact gG_; exact rfl))
        refine l_again (true, u, left - (u - m), plan ++ [(m, u)], (a_, cp_), N_) ⟨(fun h => by cases h), fun _ => ⟨by omega, hum, by rw [show max f j.rel = m from by omega], by (try dsimp only); omega⟩, by dsimp only; rw [hsn]; exact hO_⟩ (by dsimp only; omega) ?_ ?_
        · dsimp only; rw [hsn]; exact fS_
        · exact hS_
  obtain rfl : i = shifts.length := by omega
  rw [List.drop_length, Plt.slicesF, List.append_nil] at hsf
  rw [hsf]
  have e3 := Plt.slc3_len j.id plan0
  rw [e3] at hP ⊢
  repeat' (first | ((with_reducible apply c_cond_f); exact rfl; exact decide_eq_false (by omega)) | ((with_reducible first | apply o_move | apply o_assign | apply o_faddr0); exact rfl; exact rfl) | ((with_reducible first | apply o_lss | apply o_geq | apply o_eql | apply o_neq | apply o_extract | apply o_min2); exact rfl; exact rfl; exact rfl) | ((with_reducible first | apply c_seq | apply c_block | apply c_region | apply c_nil | apply c_ret | apply c_exit | apply c_scope | apply c_label | apply c_skip)) | ((with_reducible first | apply e_then | apply e_then_ret | apply e_then_exit | apply e_in | apply e_in_ret | apply e_in_same | apply e_ng_ret)))
  apply r_body; apply res2 Try.results43; exact rV_; exact rV_; intro w' hw
  exact ⟨_, NP, rfl, ⟨ap, cp, rfl, hP, oP⟩, hw.sub (by exact hS_), oP⟩
end Go.Proofs.Ytkhaemjoekfhiaa
namespace Go.Sx.Plt
theorem span_snoc (l : List (Int × Int)) (s : Int × Int) : spanF (l ++ [s]) = spanF l + (s.2 - s.1) := by
  induction l with
  | nil => simp [spanF]
  | cons a r ih => rw [List.cons_append, spanF, spanF, ih]; omega
theorem span_take {l : List (Int × Int)} {i : Nat} {s : Int × Int} (h : l[i]? = some s) : spanF (l.take (i + 1)) = spanF (l.take i) + (s.2 - s.1) := by
  rw [List.take_add_one, h, Option.toList_some, span_snoc]
theorem span_nonneg {l : List (Int × Int)} (h : ∀ s ∈ l, s.1 ≤ s.2) : 0 ≤ spanF l := by
  induction l with
  | nil => simp [spanF]
  | cons a r ih =>
    have h1 := h a List.mem_cons_self
    have h2 := ih fun s hs => h s (List.mem_cons_of_mem _ hs)
    rw [spanF]; omega
theorem span_bd {l : List (Int × Int)} (h : ∀ s ∈ l, 0 ≤ s.1 ∧ s.1 ≤ s.2 ∧ s.2 ≤ 1051898399) : spanF l ≤ 1051898399 * l.length := by
  induction l with
  | nil => simp [spanF]
  | cons a r ih =>
    have h1 := h a List.mem_cons_self
    have h2 := ih fun s hs => h s (List.mem_cons_of_mem _ hs)
    rw [spanF, List.length_cons]; omega
end Go.Sx.Plt
namespace Go.Proofs.Ytkhaemjoekfhiaa
open Go Go.Sx Go.RowKit
attribute [local irreducible] WL WC WQ WR WB WF QB St Exit.then Exit.inBlock Exit.noGoto bodyPost roundPost beginK YR RG BM Calls B AgainD MeetD
/-! ## minutes -/
theorem minutes_calls (a : Option Addr) (n c : Nat) (w : World) : Calls Try.prog 51 #[.slice a n c] w fun e w' => ∃ u N, e = .returned u ∧ (∃ b, u = .func (.func 62) #[] #[ptr b] ∧ N = [⟨b, Ce [.slice a n c] 44, true⟩]) ∧ Rep w w' N ∧ ∀ x ∈ N, x.own = true := by
  refine f_enter1 Try.func51 rfl Try.ntmps51 rfl (Rep.start w) ?_
  repeat' (first | ((with_reducible apply o_assign); exact rfl; exact rfl) | ((with_reducible apply o_box); exact rfl; exact rfl; exact rfl; intro _) | ((with_reducible apply gdo_makeFunc); refine wo_func (h := ?_)) | ((with_reducible first | apply c_seq | apply c_block | apply c_region | apply c_nil | apply c_ret | apply c_exit | apply c_skip)) | ((with_reducible first | apply e_then | apply e_then_ret | apply e_then_exit | apply e_in | apply e_in_ret | apply e_in_same)))
  apply r_body; apply res1 Try.results51; exact rV_; intro w' hw
  exact ⟨_, _, rfl, ⟨_, rfl, rfl⟩, hw.sub (by exact hS_), by simp⟩
theorem slc3_get {id : Int} {l : List (Int × Int)} {i : Nat} {f t : Int} (h : l[i]? = some (f, t)) : (Plt.slc3 id l)[i]? = some (id, f, t) := by
  rw [Plt.slc3, List.getElem?_map, h]; rfl
set_option maxHeartbeats 4000000 in
theorem count_calls {v : Value} {id : Int} {l : List (Int × Int)} (hr : ∀ s ∈ l, 0 ≤ s.1 ∧ s.1 ≤ s.2 ∧ s.2 ≤ 1051898399) (hn : l.length ≤ 100000) (w : World) (h : SV w 3 encSl v (Plt.slc3 id l)) :
    Calls Try.prog 44 #[v] w fun e w' => e = .returned (.int .i64 (Plt.spanF l)) ∧ Below w.heap.size w w' := by
  obtain ⟨a0, cs, rfl, hcs, hop⟩ := h.open
  have hll := Plt.slc3_len id l
  refine f_enterM1 Try.func44 rfl Try.ntmps44 rfl (Rep.start w) ?_
  repeat' (first | ((first | ((with_reducible apply o_call_new (f := 51)); exact rfl) | ((with_reducible apply q_call_new (f := 51)); exact rfl; exact rfl; exact sJ_)); exact eV_; exact (fun w _ => minutes_calls _ _ _ w); rintro v N ⟨b1, rfl, rfl⟩ <;> (try simp only [List.cons_append, List.nil_append])) | ((with_reducible first | apply o_move | apply o_assign); exact rfl; exact rfl) | ((with_reducible apply o_alloc); exact rfl; intro _) | ((with_reducible apply gdo_store); first | refine wo_store1 (h := ?_) | refine wo_storeA (h := ?_)) | ((with_reducible first | apply c_seq | apply c_block | apply c_region | apply c_nil | apply c_ret | apply c_exit | apply c_skip)) | ((with_reducible first | apply e_then | apply e_then_ret | apply e_then_exit | apply e_in | apply e_in_ret | apply e_in_same)))
  rename_i b3
  (apply c_rangeFunc1; exact rfl; infer_instance; exact rfl; exact Try.ntmps62; exact rfl; intro lp bd Z a1 ha1 hZ)
  repeat' (first | ((with_reducible first | apply o_move | apply o_assign | apply o_faddr0 | apply o_not_d); exact rfl; exact rfl) | ((with_reducible apply gdo_load); first | refine wo_load (h := ?_) | refine wo_loadAll (h := ?_) | refine wo_loadC (h := ?_) | refine wo_ldV (h := ?_) | refine wo_ldF (h := ?_)) | ((with_reducible apply o_len); infer_instance; exact rfl; exact rfl) | ((with_reducible first | apply c_seq | apply c_block | apply c_region | apply c_nil | apply c_ret | apply c_exit | apply c_skip)) | ((with_reducible first | apply e_then | apply e_then_ret | apply e_then_exit | apply e_in | apply e_in_ret | apply e_in_same)))
  apply c_loop (σ := Nat) (Fs := fun i => [(9, .int .i64 i), (8, .int .i64 (Plt.slc3 id l).length), (7, .slice a0 (Plt.slc3 id l).length cs), (3, .int .i64 (Plt.spanF (l.take i))), (0, .func (.yield lp) #[] #[]), (1, ptr b1)])
    (Ls := fun i => [⟨lp, Z .ready none, true⟩, ⟨bd, .deferred (some []), true⟩, ⟨b1, Ce [.slice a0 (Plt.slc3 id l).length cs] 44, true⟩, ⟨b3, Ce [.int .i64 (Plt.spanF (l.take i))] 3, true⟩])
    (I := fun i => i ≤ l.length) (μ := fun i => l.length - i) (s0 := 0)
  · exact Nat.zero_le _
  · exact fS_
  · exact hS_
  intro i hi
  have hi : i ≤ l.length := hi
  have hb := Plt.span_bd (l := l.take i) fun s hs => hr s (List.mem_of_mem_take hs)
  have hb0 := Plt.span_nonneg (l := l.take i) fun s hs => (hr s (List.mem_of_mem_take hs)).2.1
  have htl : ((l.take i).length : Int) ≤ 100000 := by rw [List.length_take]; omega
  by_cases hlt : i < l.length
  · obtain ⟨⟨f, t⟩, hx⟩ : ∃ s, l[i]? = some s := ⟨_, List.getElem?_eq_getElem hlt⟩
    have hft := hr _ (List.mem_of_getElem? hx)
    dsimp only at hft
    obtain ⟨bs, os, cc, e, fz, rfl, hk, hp⟩ := hop (by omega)
    have g1 : ∀ j u, ([.int .i64 id, .int .i64 f, .int .i64 t] : List Value)[j]? = some u → cc[os + i * 3 + j]? = some u := hp.get (slc3_get hx)
    have hst := Plt.span_take hx
    dsimp only at hst
    generalize Plt.spanF (l.take i) = n at hb hb0 hst ⊢
    repeat' (first | ((with_reducible first | apply o_move | apply o_assign | apply o_faddr0 | apply o_not_d); exact rfl; exact rfl) | ((with_reducible apply gdo_load); first | refine wo_load (h := ?_) | refine wo_loadAll (h := ?_) | refine wo_loadC (h := ?_) | refine wo_ldV (h := ?_) | refine wo_ldF (h := ?_)) | ((with_reducible apply o_lss); exact rfl; exact rfl; exact rfl) | ((with_reducible apply o_alloc); exact rfl; intro _) | ((with_reducible apply gdo_store); first | refine wo_store1 (h := ?_) | refine wo_storeA (h := ?_)) | ((with_reducible apply o_idx); infer_instance; infer_instance; exact rfl; exact rfl; (first | exact rfl | omega); exact rfl; (first | assumption | omega | decide)) | ((with_reducible first | apply c_seq | apply c_block | apply c_region | apply c_nil | apply c_ret | apply c_exit | apply c_skip)) | ((with_reducible apply c_cond_t); exact rfl; exact tT_) | ((with_reducible first | apply e_then | apply e_then_ret | apply e_then_exit | apply e_in | apply e_in_ret | apply e_in_same)))
    rename_i b5
    apply c_loop (σ := Int) (Fs := fun m => [(6, .int .i64 m), (5, ptr b5), (9, .int .i64 i), (8, .int .i64 (Plt.slc3 id l).length), (7, .slice (some ⟨bs, os, none⟩) (Plt.slc3 id l).length cs), (3, .int .i64 (n + (m - f))), (0, .func (.yield lp) #[] #[]), (1, ptr b1)])
      (Ls := fun m => [⟨b5, Ce [.int .i64 id, .int .i64 f, .int .i64 t] 68, true⟩, ⟨lp, Z .ready none, true⟩, ⟨bd, .deferred (some []), true⟩, ⟨b1, Ce [.slice (some ⟨bs, os, none⟩) (Plt.slc3 id l).length cs] 44, true⟩, ⟨b3, Ce [.int .i64 (n + (m - f))] 3, true⟩])
      (I := fun m => f ≤ m ∧ m ≤ t) (μ := fun m => (t - m).toNat) (s0 := f)
    · exact ⟨by omega, by omega⟩
    · (try dsimp only); rw [show n + (f - f) = n from by omega]; exact fS_
    · (try dsimp only); rw [show n + (f - f) = n from by omega]; exact hS_
    rintro m ⟨hm1, hm2⟩
    by_cases hmt : m < t
    · have es : n + (m - f) + 1 = n + (m + 1 - f) := by omega
      as_aux_lemma =>
        repeat' (first | ((with_reducible apply c_cond_t); exact rfl; exact decide_eq_true (by omega)) | ((with_reducible apply o_yield); exact rfl; exact eV_; assumption; assumption; exact aT_; exact rfl; exact rfl; (repeat (first | exact RPar.nil | apply RPar.cons)); intro aI haI) | ((with_reducible apply e_begin); assumption; exact aT_; exact uP_) | (first | ((with_reducible apply e_round); assumption; exact rfl; assumption; exact aT_; exact uP_) | ((with_reducible apply e_round_ret); assumption; exact rfl; assumption; exact aT_; exact uP_) | ((with_reducible apply e_round_exit); assumption; exact rfl; assumption; exact aT_; exact uP_)) | (first | apply r_iter Try.results62 | apply r_iter' Try.results62) | (first | ((with_reducible apply e_range); assumption; assumption; exact aT_; (intro hst; cases hst); exact uP_) | ((with_reducible apply e_rangeJ); assumption; assumption; exact aT_; (intro hst; cases hst); exact uP_)) | ((with_reducible first | apply o_move | apply o_assign | apply o_faddr0 | apply o_not_d); exact rfl; exact rfl) | ((with_reducible apply gdo_load); first | refine wo_load (h := ?_) | refine wo_loadAll (h := ?_) | refine wo_loadC (h := ?_) | refine wo_ldV (h := ?_) | refine wo_ldF (h := ?_)) | ((with_reducible apply o_lss); exact rfl; exact rfl; exact rfl) | ((with_reducible apply o_not); exact rfl; exact rfl) | ((with_reducible apply o_add); exact rfl; exact rfl; exact rfl; (constructor <;> omega)) | ((with_reducible apply gdo_store); first | refine wo_store1 (h := ?_) | refine wo_storeA (h := ?_)) | ((with_reducible first | apply c_seq | apply c_block | apply c_region | apply c_nil | apply c_ret | apply c_exit | apply c_skip)) | ((with_reducible apply c_cond_f); exact rfl; exact fF_) | ((with_reducible first | apply e_then | apply e_then_ret | apply e_then_exit | apply e_in | apply e_in_ret | apply e_in_same)))
        refine l_again (m + 1) ⟨by omega, by omega⟩ (by omega) ?_ ?_
        · (try dsimp only); rw [← es]; exact fS_
        · (try dsimp only); rw [← es]; exact hS_
    · obtain rfl : m = t := by omega
      as_aux_lemma =>
        repeat' (first | ((with_reducible apply c_cond_f); exact rfl; exact decide_eq_false (by omega)) | ((with_reducible first | apply o_move | apply o_assign | apply o_faddr0 | apply o_not_d); exact rfl; exact rfl) | ((with_reducible apply gdo_load); first | refine wo_load (h := ?_) | refine wo_loadAll (h := ?_) | refine wo_loadC (h := ?_) | refine wo_ldV (h := ?_) | refine wo_ldF (h := ?_)) | ((with_reducible apply o_lss); exact rfl; exact rfl; exact rfl) | ((with_reducible apply o_add); exact rfl; exact rfl; exact rfl; (constructor <;> omega)) | ((with_reducible first | apply c_seq | apply c_block | apply c_region | apply c_nil | apply c_ret | apply c_exit | apply c_skip)) | ((with_reducible first | apply e_then | apply e_then_ret | apply e_then_exit | apply e_in | apply e_in_ret | apply e_in_same)))
        refine l_again (i + 1) (by omega) (by omega) ?_ ?_
        · (try dsimp only); rw [hst]; exact fS_
        · (try dsimp only); rw [hst]; exact hS_
  obtain rfl : i = l.length := by omega
  rw [List.take_length]
  repeat' (first | ((with_reducible apply c_cond_f); exact rfl; exact decide_eq_false (by omega)) | ((with_reducible apply o_yield); exact rfl; exact eV_; assumption; assumption; exact aT_; exact rfl; exact rfl; (repeat (first | exact RPar.nil | apply RPar.cons)); intro aI haI) | ((with_reducible apply e_begin); assumption; exact aT_; exact uP_) | (first | ((with_reducible apply e_round); assumption; exact rfl; assumption; exact aT_; exact uP_) | ((with_reducible apply e_round_ret); assumption; exact rfl; assumption; exact aT_; exact uP_) | ((with_reducible apply e_round_exit); assumption; exact rfl; assumption; exact aT_; exact uP_)) | (first | apply r_iter Try.results62 | apply r_iter' Try.results62) | (first | ((with_reducible apply e_range); assumption; assumption; exact aT_; (intro hst; cases hst); exact uP_) | ((with_reducible apply e_rangeJ); assumption; assumption; exact aT_; (intro hst; cases hst); exact uP_)) | ((with_reducible first | apply o_move | apply o_assign | apply o_faddr0 | apply o_not_d); exact rfl; exact rfl) | ((with_reducible apply gdo_load); first | refine wo_load (h := ?_) | refine wo_loadAll (h := ?_) | refine wo_loadC (h := ?_) | refine wo_ldV (h := ?_) | refine wo_ldF (h := ?_)) | ((with_reducible apply o_lss); exact rfl; exact rfl; exact rfl) | ((with_reducible first | apply c_seq | apply c_block | apply c_region | apply c_nil | apply c_ret | apply c_exit | apply c_skip)) | ((with_reducible first | apply e_then | apply e_then_ret | apply e_then_exit | apply e_in | apply e_in_ret | apply e_in_same)))
  (first | ((with_reducible apply r_M1); exact aT_; exact uP_; apply res1 Try.results44; exact rV_; intro w' hw) | ((with_reducible apply r_M0); apply res1 Try.results44; exact rV_; intro w' hw))
  exact ⟨rfl, hw.below (by simp)⟩
end Go.Proofs.Ytkhaemjoekfhiaa
namespace Go.Sx.Plt
/-- The items that are not read. -/
def unF (l : List Int) : List (Int × Bool) := l.foldl (fun m x => putF x true m) []
theorem unF_snoc (l : List Int) (x : Int) : unF (l ++ [x]) = putF x true (unF l) := by simp [unF]
theorem tableF_snoc (l : List Row) (e : Row) : tableF (l ++ [e]) = putF e.stop e.st (tableF l) := by simp [tableF]
theorem snoc_ind {α : Type} {p : List α → Prop} (h0 : p []) (h1 : ∀ l x, p l → p (l ++ [x])) (l : List α) : p l := by
  have : ∀ (r : List α), p r.reverse := by
    intro r
    induction r with
    | nil => simpa using h0
    | cons a r ih => rw [List.reverse_cons]; exact h1 _ _ ih
  simpa using this l.reverse
theorem unF_nodup (l : List Int) : ((unF l).map Prod.fst).Nodup := by
  refine snoc_ind (p := fun l => ((unF l).map Prod.fst).Nodup) (by simp [unF]) (fun l x h => ?_) l
  rw [unF_snoc]; exact putF_nodup h
theorem tableF_nodup (l : List Row) : ((tableF l).map Prod.fst).Nodup := by
  refine snoc_ind (p := fun l => ((tableF l).map Prod.fst).Nodup) (by simp [tableF]) (fun l x h => ?_) l
  rw [tableF_snoc]; exact putF_nodup h
theorem unF_as (l : List Int) (x : Int) : asF x (unF l) = if x ∈ l then some true else none := by
  refine snoc_ind (p := fun l => asF x (unF l) = if x ∈ l then some true else none) (by simp [unF, asF]) (fun l y h => ?_) l
  rw [unF_snoc, asF_put]
  by_cases e : y = x
  · simp [e]
  · have e' : ¬ x = y := fun h => e h.symm
    rw [if_neg e, h]
    simp [e']
end Go.Sx.Plt
namespace Go.Proofs.Ytkhaemjoekfhiaa
open Go Go.Sx Go.RowKit
attribute [local irreducible] WL WC WQ WR WB WF QB St Exit.then Exit.inBlock Exit.noGoto bodyPost roundPost beginK YR RG BM Calls B AgainD MeetD
/-! ## a hall's value -/
def vM (d : MD) : Value := .agg #[.int .i64 d.id, .int .i64 d.sweeps, .int .i64 d.rate, sdV d.caps, sdV d.shifts]
/-- What a part of the memory shows, wherever it lies. -/
def Shw (N : List Ent) (p : World → Prop) : Prop := ∀ (w0 w : World) (L L0 : List Ent), RemL L N L0 → Rep w0 w L → p w
theorem Shw.left {A B : List Ent} {p : World → Prop} (h : Shw A p) : Shw (A ++ B) p := fun w0 w L L0 hr hw => h w0 w L (B ++ L0) (List.Perm.trans hr (by rw [List.append_assoc])) hw
theorem Shw.right {A B : List Ent} {p : World → Prop} (h : Shw B p) : Shw (A ++ B) p := fun w0 w L L0 hr hw => h w0 w L (A ++ L0) (List.Perm.trans hr (by rw [List.append_assoc]; exact List.perm_append_comm_assoc _ _ _)) hw
theorem Shw.mono {N : List Ent} {p q : World → Prop} (h : Shw N p) (hpq : ∀ w, p w → q w) : Shw N q := fun w0 w L L0 hr hw => hpq w (h w0 w L L0 hr hw)
theorem Shw.and {N : List Ent} {p q : World → Prop} (h : Shw N p) (h' : Shw N q) : Shw N (fun w => p w ∧ q w) := fun w0 w L L0 hr hw => ⟨h w0 w L L0 hr hw, h' w0 w L L0 hr hw⟩
theorem Shw.ow {α : Type} {E : TypeId} {k : Nat} {enc : α → List Value} {v : Value} {xs : List α} {N : List Ent} (henc : ∀ x, (enc x).length = k) (h : OW E k enc v xs N) : Shw N (fun w => SV w k enc v xs) := fun w0 w L L0 hr hw => h.sv henc hr hw
theorem Shw.ll {α : Type} {E : TypeId} {k : Nat} {enc : α → List Value} {ss : List SD} {xss : List (List α)} {N : List Ent} (henc : ∀ x, (enc x).length = k) (h : LL E k enc ss xss N) : Shw N (fun w => SL w k enc ss xss) := fun w0 w L L0 hr hw => h.sl henc hr hw
def hallG (bh bm bs bi be bf : Nat) (ml : List (Int × MD)) (stops : List (Int × Int)) (its : List ((Int × Int) × SD)) (ends free : List (Int × Int)) : List Ent :=
  [⟨bh, Ce [.map (some bm), .map (some bs), .map (some bi), .map (some be), .map (some bf)] 96, true⟩, ⟨bm, MO (MM kI vM ml), true⟩, ⟨bs, MO (MM kI kI stops), true⟩, ⟨bi, MO (MM kP sdV its), true⟩, ⟨be, MO (MM kI kI ends), true⟩, ⟨bf, MO (MM kI kI free), true⟩]
theorem hallG_own {bh bm bs bi be bf : Nat} {ml : List (Int × MD)} {stops : List (Int × Int)} {its : List ((Int × Int) × SD)} {ends free : List (Int × Int)} : ∀ x ∈ hallG bh bm bs bi be bf ml stops its ends free, x.own = true := by simp [hallG]
/-! ## feeds -/
set_option maxHeartbeats 8000000 in
set_option maxRecDepth 100000 in
theorem pfeeds_calls {iv : Value} {items : List Int} {y : Plt.Pass} {d : PD} {stops : List (Int × Int)} {bh bm bs bi be bf : Nat} (w : World) (h1 : w.heap[bh]? = some (Ce [.map (some bm), .map (some bs), .map (some bi), .map (some be), .map (some bf)] 96)) (h2 : w.heap[bs]? = some (MO (MM kI kI stops))) (hsn : (stops.map Prod.fst).Nodup) (hy : PassV w d y) (hi : SV w 1 encI iv items) (hn : items.length ≤ 1000000) :
    Calls Try.prog 46 #[ptr bh, .agg #[.int .i64 d.id, .int .i64 d.mach, .int .i64 d.rel, sdV d.src, sdV d.table, sdV d.unread], iv] w fun e w' => ∃ v N, e = .returned v ∧ (∃ a c, v = .slice a items.length c ∧ OW 150 2 encF (.slice a items.length c) (items.map (Plt.feedOf stops y)) N ∧ ∀ x ∈ N, x.own = true) ∧ Rep w w' N ∧ ∀ x ∈ N, x.own = true := by
  obtain ⟨id, ma, re, ⟨a1, n1, c1⟩, ⟨a2, n2, c2⟩, ⟨a3, n3, c3⟩⟩ := d
  obtain ⟨e1, e2, e3, hs, hr, hu⟩ := hy
  dsimp only [sdV] at e1 e2 e3 hs hr hu ⊢
  subst e1 e2 e3
  obtain ⟨_, _, e1, hc1, -⟩ := hs.open
  cases e1
  obtain ⟨_, _, e2, hc2, hop2⟩ := hr.open
  cases e2
  obtain ⟨_, _, e3, hc3, hop3⟩ := hu.open
  cases e3
  obtain ⟨ai, ci, rfl, hci, hopi⟩ := hi.open
  refine f_enter3 Try.func46 rfl Try.ntmps46 rfl (Rep.start w) ?_
  repeat' (first | ((with_reducible first | apply o_move | apply o_assign | apply o_faddr0 | apply o_not_d | apply o_nilCheck); exact rfl; exact rfl) | ((with_reducible apply gdo_load); first | refine wo_load (h := ?_) | refine wo_loadAll (h := ?_) | refine wo_loadC (h := ?_) | refine wo_ldV (h := ?_) | refine wo_ldF (h := ?_)) | ((with_reducible apply o_box); exact rfl; exact rfl; exact rfl; intro _) | ((with_reducible apply o_len); infer_instance; exact rfl; exact rfl) | ((with_reducible apply o_makeMap); infer_instance; exact rfl; exact rfl; intro _) | ((with_reducible first | apply c_seq | apply c_block | apply c_region | apply c_nil | apply c_ret | apply c_exit | apply c_skip)) | ((with_reducible first | apply e_then | apply e_then_ret | apply e_then_exit | apply e_in | apply e_in_ret | apply e_in_same)))
  rename_i b4 bt
  apply c_loop (σ := Nat) (Fs := fun i => [(26, .int .i64 i), (25, .int .i64 y.table.length), (24, .slice a2 y.table.length c2), (7, .map (some bt)), (4, ptr b4), (2, .slice ai items.length ci), (0, ptr bh)])
    (Ls := fun i => [⟨bt, MO (MM kI kI (Plt.tableF (y.table.take i))), true⟩, ⟨b4, Ce [.int .i64 y.id, .int .i64 y.mach, .int .i64 y.rel, .slice a1 y.src.length c1, .slice a2 y.table.length c2, .slice a3 y.unread.length c3] 58, true⟩]) (I := fun i => i ≤ y.table.length) (μ := fun i => y.table.length - i) (s0 := 0)
  · exact Nat.zero_le _
  · exact fS_
  · exact hS_
  intro i hi'
  have hi2 : i ≤ y.table.length := hi'
  by_cases hlt : i < y.table.length
  · obtain ⟨⟨st, sk⟩, hx⟩ : ∃ s, y.table[i]? = some s := ⟨_, List.getElem?_eq_getElem hlt⟩
    obtain ⟨b, off, cc, e, fz, rfl, hk, hpt⟩ := hop2 (by omega)
    have g1 : ∀ j u, ([.int .i64 st, .int .i64 sk] : List Value)[j]? = some u → cc[off + i * 2 + j]? = some u := hpt.get hx
    have hsn2 : Plt.tableF (y.table.take (i + 1)) = putF st sk (Plt.tableF (y.table.take i)) := by rw [take_snoc hx, Plt.tableF_snoc]
    have htn := Plt.tableF_nodup (y.table.take i)
    as_aux_lemma =>
      repeat' (first | ((with_reducible apply c_cond_t); exact rfl; exact decide_eq_true (by omega)) | ((with_reducible apply o_mapPut (κ := kI) (ν := kI) (k := st) (v := sk)); infer_instance; infer_instance; exact rfl; exact rfl; exact rfl; exact aT_; assumption; exact uP_) | ((with_reducible first | apply o_move | apply o_assign | apply o_faddr0 | apply o_not_d | apply o_nilCheck); exact rfl; exact rfl) | ((with_reducible apply gdo_load); first | refine wo_load (h := ?_) | refine wo_loadAll (h := ?_) | refine wo_loadC (h := ?_) | refine wo_ldV (h := ?_) | refine wo_ldF (h := ?_)) | ((with_reducible first | apply o_lss | apply o_extract); exact rfl; exact rfl; exact rfl) | ((with_reducible apply o_add); exact rfl; exact rfl; exact rfl; (constructor <;> omega)) | ((with_reducible first | apply o_alloc | apply o_makeMap0); exact rfl; intro _) | ((with_reducible apply gdo_store); first | refine wo_store1 (h := ?_) | refine wo_storeA (h := ?_)) | ((with_reducible apply o_idx); infer_instance; infer_instance; exact rfl; exact rfl; (first | exact rfl | omega); exact rfl; (first | assumption | omega | decide)) | ((with_reducible first | apply c_seq | apply c_block | apply c_region | apply c_nil | apply c_ret | apply c_exit | apply c_skip)) | ((with_reducible first | apply e_then | apply e_then_ret | apply e_then_exit | apply e_in | apply e_in_ret | apply e_in_same)))
      refine l_again (i + 1) (by omega) (by omega) ?_ ?_
      · exact fS_
      · (try dsimp only); rw [hsn2]; exact hS_
  obtain rfl : i = y.table.length := by omega
  rw [List.take_length]
  have htn := Plt.tableF_nodup y.table
  clear hop2
  repeat' (first | ((with_reducible apply c_cond_f); exact rfl; exact decide_eq_false (by omega)) | ((with_reducible first | apply o_move | apply o_assign | apply o_faddr0 | apply o_not_d | apply o_nilCheck); exact rfl; exact rfl) | ((with_reducible apply gdo_load); first | refine wo_load (h := ?_) | refine wo_loadAll (h := ?_) | refine wo_loadC (h := ?_) | refine wo_ldV (h := ?_) | refine wo_ldF (h := ?_)) | ((with_reducible first | apply o_lss | apply o_extract); exact rfl; exact rfl; exact rfl) | ((with_reducible apply o_len); infer_instance; exact rfl; exact rfl) | ((with_reducible apply o_makeMap); infer_instance; exact rfl; exact rfl; intro _) | ((with_reducible first | apply c_seq | apply c_block | apply c_region | apply c_nil | apply c_ret | apply c_exit | apply c_skip)) | ((with_reducible first | apply e_then | apply e_then_ret | apply e_then_exit | apply e_in | apply e_in_ret | apply e_in_same)))
  rename_i bu
  apply c_loop (σ := Nat) (Fs := fun i => [(43, .int .i64 i), (42, .int .i64 y.unread.length), (41, .slice a3 y.unread.length c3), (10, .map (some bu)), (7, .map (some bt)), (4, ptr b4), (2, .slice ai items.length ci), (0, ptr bh)])
    (Ls := fun i => [⟨bu, MO (MM kI vB (Plt.unF (y.unread.take i))), true⟩, ⟨bt, MO (MM kI kI (Plt.tableF y.table)), true⟩, ⟨b4, Ce [.int .i64 y.id, .int .i64 y.mach, .int .i64 y.rel, .slice a1 y.src.length c1, .slice a2 y.table.length c2, .slice a3 y.unread.length c3] 58, true⟩]) (I := fun i => i ≤ y.unread.length) (μ := fun i => y.unread.length - i) (s0 := 0)
  · exact Nat.zero_le _
  · exact fS_
  · exact hS_
  intro i hi'
  have hi2 : i ≤ y.unread.length := hi'
  by_cases hlt : i < y.unread.length
  · obtain ⟨x, hx⟩ : ∃ s, y.unread[i]? = some s := ⟨_, List.getElem?_eq_getElem hlt⟩
    obtain ⟨b, off, cc, e, fz, rfl, hk, hpt⟩ := hop3 (by omega)
    have g1 := hpt.one hx rfl
    have hsn2 : Plt.unF (y.unread.take (i + 1)) = putF x true (Plt.unF (y.unread.take i)) := by rw [take_snoc hx, Plt.unF_snoc]
    have hun := Plt.unF_nodup (y.unread.take i)
    as_aux_lemma =>
      repeat' (first | ((with_reducible apply c_cond_t); exact rfl; exact decide_eq_true (by omega)) | ((with_reducible apply o_mapPut (κ := kI) (ν := vB) (k := x) (v := true)); infer_instance; infer_instance; exact rfl; exact rfl; exact rfl; exact aT_; assumption; exact uP_) | ((with_reducible first | apply o_move | apply o_assign | apply o_faddr0 | apply o_not_d | apply o_nilCheck); exact rfl; exact rfl) | ((with_reducible apply gdo_load); first | refine wo_load (h := ?_) | refine wo_loadAll (h := ?_) | refine wo_loadC (h := ?_) | refine wo_ldV (h := ?_) | refine wo_ldF (h := ?_)) | ((with_reducible first | apply o_lss | apply o_extract); exact rfl; exact rfl; exact rfl) | ((with_reducible apply o_add); exact rfl; exact rfl; exact rfl; (constructor <;> omega)) | ((with_reducible apply o_idx); infer_instance; infer_instance; exact rfl; exact rfl; (first | exact rfl | omega); exact rfl; (first | assumption | omega | decide)) | ((with_reducible first | apply c_seq | apply c_block | apply c_region | apply c_nil | apply c_ret | apply c_exit | apply c_skip)) | ((with_reducible first | apply e_then | apply e_then_ret | apply e_then_exit | apply e_in | apply e_in_ret | apply e_in_same)))
      refine l_again (i + 1) (by omega) (by omega) ?_ ?_
      · exact fS_
      · (try dsimp only); rw [hsn2]; exact hS_
  obtain rfl : i = y.unread.length := by omega
  rw [List.take_length]
  have hun := Plt.unF_nodup y.unread
  have hua := Plt.unF_as y.unread
  clear hop3
  repeat' (first | ((with_reducible apply c_cond_f); exact rfl; exact decide_eq_false (by omega)) | ((with_reducible first | apply o_move | apply o_assign | apply o_faddr0 | apply o_not_d | apply o_nilCheck); exact rfl; exact rfl) | ((with_reducible first | apply o_lss | apply o_extract); exact rfl; exact rfl; exact rfl) | ((with_reducible apply o_len); infer_instance; exact rfl; exact rfl) | ((with_reducible apply gdo_makeSlice); refine wo_makeSlice (h := fun _ => ?_)) | ((with_reducible first | apply c_seq | apply c_block | apply c_region | apply c_nil | apply c_ret | apply c_exit | apply c_skip)) | ((with_reducible first | apply e_then | apply e_then_ret | apply e_then_exit | apply e_in | apply e_in_ret | apply e_in_same)))
  rename_i bz
  apply c_loop (σ := Nat × (Option Addr × Nat) × List Ent) (Fs := fun t => [(55, .int .i64 t.1), (54, .int .i64 items.length), (53, .slice ai items.length ci), (13, .slice t.2.1.1 ((items.take t.1).map (Plt.feedOf stops y)).length t.2.1.2), (10, .map (some bu)), (7, .map (some bt)), (4, ptr b4), (0, ptr bh)])
    (Ls := fun t => t.2.2 ++ [⟨bu, MO (MM kI vB (Plt.unF y.unread)), true⟩, ⟨bt, MO (MM kI kI (Plt.tableF y.table)), true⟩, ⟨b4, Ce [.int .i64 y.id, .int .i64 y.mach, .int .i64 y.rel, .slice a1 y.src.length c1, .slice a2 y.table.length c2, .slice a3 y.unread.length c3] 58, true⟩])
    (I := fun t => t.1 ≤ items.length ∧ OW 150 2 encF (.slice t.2.1.1 ((items.take t.1).map (Plt.feedOf stops y)).length t.2.1.2) ((items.take t.1).map (Plt.feedOf stops y)) t.2.2) (μ := fun t => items.length - t.1)
    (s0 := (0, (some ⟨bz, 0, none⟩, items.length), [⟨bz, Ce (([] : List Srt.Fd).flatMap encF ++ (List.replicate items.length [Value.int .i64 0, Value.int .i64 0]).flatten) 150, true⟩]))
  · exact ⟨Nat.zero_le _, OW.row (E := 150) (k := 2) (enc := encF) (b := bz) (cap := items.length) (xs := []) (s := (List.replicate items.length [Value.int .i64 0, Value.int .i64 0]).flatten) (by simp) ⟨Nat.zero_le _, by simp⟩⟩
  · exact fS_
  · exact hS_
  rintro ⟨i, ⟨af, cf⟩, NF⟩ ⟨hi2, hO⟩
  dsimp only at hi2 hO ⊢
  have oF := hO.own
  by_cases hlt : i < items.length
  · obtain ⟨x, hx⟩ : ∃ s, items[i]? = some s := ⟨_, List.getElem?_eq_getElem hlt⟩
    obtain ⟨b, off, cc, e, fz, rfl, hk, hpt⟩ := hopi (by omega)
    have g1 := hpt.one hx rfl
    have hrl : ((items.take i).map (Plt.feedOf stops y)).length = i := by rw [List.length_map, List.length_take]; omega
    have hsnoc : ∀ k, Plt.feedOf stops y x = ⟨x, k⟩ → (items.take (i + 1)).map (Plt.feedOf stops y) = (items.take i).map (Plt.feedOf stops y) ++ [⟨x, k⟩] := fun k hk => by rw [take_snoc hx, List.map_append, List.map_cons, List.map_nil, hk]
    generalize (items.take i).map (Plt.feedOf stops y) = R at hO hrl hsnoc ⊢
    obtain ⟨st, hst⟩ : ∃ st, (asF x stops).getD 0 = st := ⟨_, rfl⟩
    have hfo : Plt.feedOf stops y x = match asF st (Plt.tableF y.table) with
      | some k => ⟨x, if x ∈ y.unread then -1 else k⟩
      | none => ⟨x, -1⟩ := by unfold Plt.feedOf; rw [hst]; cases asF st (Plt.tableF y.table) <;> rfl
    have hcase : (asF x stops = some st) ∨ (asF x stops = none ∧ st = 0) := by
      cases h : asF x stops with
      | none => rw [h] at hst; exact .inr ⟨rfl, hst.symm⟩
      | some z => rw [h] at hst; exact .inl (by rw [← hst]; rfl)
    generalize Plt.tableF y.table = tab at htn hfo ⊢
    generalize Plt.unF y.unread = un at hun hua ⊢
    cases hta : asF st tab with
    | none =>
      rw [hta] at hfo
      have hsn2 := hsnoc (-1) hfo
      rcases hcase with hs1 | ⟨hs1, rfl⟩
      all_goals
        as_aux_lemma =>
          repeat' (first | ((with_reducible apply c_cond_t); exact rfl; exact decide_eq_true (by omega)) | ((with_reducible apply o_lookM_in (κ := kI) (ν := kI) (k := x) (v := st)); infer_instance; infer_instance; exact rfl; exact rfl; exact kN_; assumption; assumption; exact rfl) | ((with_reducible apply o_lookM_out (κ := kI) (ν := kI) (k := x)); infer_instance; infer_instance; infer_instance; exact rfl; exact rfl; exact kN_; assumption; exact rfl) | ((with_reducible apply o_lookMT_out (κ := kI) (ν := kI) (k := st)); infer_instance; infer_instance; infer_instance; exact rfl; exact rfl; exact kN_; assumption; exact rfl) | ((with_reducible apply o_lookMT_out (κ := kI) (ν := kI) (k := 0)); infer_instance; infer_instance; infer_instance; exact rfl; exact rfl; exact kN_; assumption; exact rfl) | (apply o_appH (enc := encF) (ys := [(⟨x, -1⟩ : Srt.Fd)]); infer_instance; infer_instance; infer_instance; exact rfl; exact encF_len; exact encF_one; exact rfl; exact rfl; exact rfl; assumption; exact rL_; (exact fun w hw => SV.lit [(⟨x, -1⟩ : Srt.Fd)] encF_len hw (by exact aT_) rfl rfl (by decide)); (first | decide | (constructor <;> (try simp only [List.length_cons, List.length_nil]) <;> omega) | (constructor <;> simp <;> omega)); intro a_ cp_ N_ hO_; have oN_ := hO_.own; (try simp only [List.nil_append, List.append_assoc] at hO_); (try simp only [List.append_eq, List.append_assoc, List.cons_append, List.nil_append])) | ((with_reducible first | apply o_move | apply o_assign | apply o_faddr0 | apply o_not_d | apply o_nilCheck); exact rfl; exact rfl) | ((with_reducible apply gdo_load); first | refine wo_load (h := ?_) | refine wo_loadAll (h := ?_) | refine wo_loadC (h := ?_) | refine wo_ldV (h := ?_) | refine wo_ldF (h := ?_)) | ((with_reducible first | apply o_lss | apply o_extract); exact rfl; exact rfl; exact rfl) | ((with_reducible apply o_add); exact rfl; exact rfl; exact rfl; (constructor <;> omega)) | ((with_reducible apply o_pick_f); exact rfl; exact fF_; exact rfl; exact rfl) | ((with_reducible first | apply o_alloc | apply o_makeMap0); exact rfl; intro _) | ((with_reducible apply gdo_store); first | refine wo_store1 (h := ?_) | refine wo_storeA (h := ?_)) | ((with_reducible apply gdo_build); first | refine wo_build (h := ?_)) | ((with_reducible apply gdo_buildSlice); refine wo_buildSlice (h := fun _ => ?_)) | ((with_reducible apply o_idx); infer_instance; infer_instance; exact rfl; exact rfl; (first | exact rfl | omega); exact rfl; (first | assumption | omega | decide)) | ((with_reducible apply g_skip); exact rfl; exact gG_; exact rfl) | ((with_reducible first | apply c_seq | apply c_block | apply c_region | apply c_nil | apply c_ret | apply c_exit | apply c_skip)) | ((with_reducible apply c_cond_f); exact rfl; exact fF_) | ((with_reducible first | apply e_then | apply e_then_ret | apply e_then_exit | apply e_in | apply e_in_ret | apply e_in_same)))
          refine l_again (i + 1, (a_, cp_), N_) ⟨by dsimp only; omega, by dsimp only; rw [hsn2]; exact hO_⟩ (by dsimp only; omega) ?_ ?_
          · dsimp only; rw [hsn2]; exact fS_
          · exact hS_
    | some sk =>
      rw [hta] at hfo
      dsimp only at hfo
      have hux := hua x
      by_cases hin : x ∈ y.unread
      · rw [if_pos hin] at hfo hux
        have hsn2 := hsnoc (-1) hfo
        rcases hcase with hs1 | ⟨hs1, rfl⟩
        all_goals
          as_aux_lemma =>
            repeat' (first | ((with_reducible apply c_cond_t); exact rfl; exact decide_eq_true (by omega)) | ((with_reducible apply o_lookM_in (κ := kI) (ν := kI) (k := x) (v := st)); infer_instance; infer_instance; exact rfl; exact rfl; exact kN_; assumption; assumption; exact rfl) | ((with_reducible apply o_lookM_out (κ := kI) (ν := kI) (k := x)); infer_instance; infer_instance; infer_instance; exact rfl; exact rfl; exact kN_; assumption; exact rfl) | ((with_reducible apply o_lookMT_in (κ := kI) (ν := kI) (k := st) (v := sk)); infer_instance; infer_instance; exact rfl; exact rfl; exact kN_; assumption; assumption; exact rfl) | ((with_reducible apply o_lookMT_in (κ := kI) (ν := kI) (k := 0) (v := sk)); infer_instance; infer_instance; exact rfl; exact rfl; exact kN_; assumption; assumption; exact rfl) | ((with_reducible apply o_lookM_in (κ := kI) (ν := vB) (k := x) (v := true)); infer_instance; infer_instance; exact rfl; exact rfl; exact kN_; assumption; assumption; exact rfl) | (apply o_appH (enc := encF) (ys := [(⟨x, -1⟩ : Srt.Fd)]); infer_instance; infer_instance; infer_instance; exact rfl; exact encF_len; exact encF_one; exact rfl; exact rfl; exact rfl; assumption; exact rL_; (exact fun w hw => SV.lit [(⟨x, -1⟩ : Srt.Fd)] encF_len hw (by exact aT_) rfl rfl (by decide)); (first | decide | (constructor <;> (try simp only [List.length_cons, List.length_nil]) <;> omega) | (constructor <;> simp <;> omega)); intro a_ cp_ N_ hO_; have oN_ := hO_.own; (try simp only [List.nil_append, List.append_assoc] at hO_); (try simp only [List.append_eq, List.append_assoc, List.cons_append, List.nil_append])) | ((with_reducible first | apply o_move | apply o_assign | apply o_faddr0 | apply o_not_d | apply o_nilCheck); exact rfl; exact rfl) | ((with_reducible apply gdo_load); first | refine wo_load (h := ?_) | refine wo_loadAll (h := ?_) | refine wo_loadC (h := ?_) | refine wo_ldV (h := ?_) | refine wo_ldF (h := ?_)) | ((with_reducible first | apply o_lss | apply o_extract); exact rfl; exact rfl; exact rfl) | ((with_reducible apply o_not); exact rfl; exact rfl) | ((with_reducible apply o_add); exact rfl; exact rfl; exact rfl; (constructor <;> omega)) | ((with_reducible apply o_pick_t); exact rfl; exact tT_; exact rfl; exact rfl) | ((with_reducible first | apply o_alloc | apply o_makeMap0); exact rfl; intro _) | ((with_reducible apply gdo_store); first | refine wo_store1 (h := ?_) | refine wo_storeA (h := ?_)) | ((with_reducible apply gdo_build); first | refine wo_build (h := ?_)) | ((with_reducible apply gdo_buildSlice); refine wo_buildSlice (h := fun _ => ?_)) | ((with_reducible apply o_idx); infer_instance; infer_instance; exact rfl; exact rfl; (first | exact rfl | omega); exact rfl; (first | assumption | omega | decide)) | ((with_reducible first | apply g_run); exact rfl; exact gG_) | ((with_reducible first | apply c_seq | apply c_block | apply c_region | apply c_nil | apply c_ret | apply c_exit | apply c_skip)) | ((with_reducible apply c_cond_f); exact rfl; exact fF_) | ((with_reducible first | apply e_then | apply e_then_ret | apply e_then_exit | apply e_in | apply e_in_ret | apply e_in_same)))
            refine l_again (i + 1, (a_, cp_), N_) ⟨by dsimp only; omega, by dsimp only; rw [hsn2]; exact hO_⟩ (by dsimp only; omega) ?_ ?_
            · dsimp only; rw [hsn2]; exact fS_
            · exact hS_
      · rw [if_neg hin] at hfo hux
        have hsn2 := hsnoc sk hfo
        rcases hcase with hs1 | ⟨hs1, rfl⟩
        all_goals
          as_aux_lemma =>
            repeat' (first | ((with_reducible apply c_cond_t); exact rfl; exact decide_eq_true (by omega)) | ((with_reducible apply o_lookM_in (κ := kI) (ν := kI) (k := x) (v := st)); infer_instance; infer_instance; exact rfl; exact rfl; exact kN_; assumption; assumption; exact rfl) | ((with_reducible apply o_lookM_out (κ := kI) (ν := kI) (k := x)); infer_instance; infer_instance; infer_instance; exact rfl; exact rfl; exact kN_; assumption; exact rfl) | ((with_reducible apply o_lookMT_in (κ := kI) (ν := kI) (k := st) (v := sk)); infer_instance; infer_instance; exact rfl; exact rfl; exact kN_; assumption; assumption; exact rfl) | ((with_reducible apply o_lookMT_in (κ := kI) (ν := kI) (k := 0) (v := sk)); infer_instance; infer_instance; exact rfl; exact rfl; exact kN_; assumption; assumption; exact rfl) | ((with_reducible apply o_lookM_out (κ := kI) (ν := vB) (k := x)); infer_instance; infer_instance; infer_instance; exact rfl; exact rfl; exact kN_; assumption; exact rfl) | (apply o_appH (enc := encF) (ys := [(⟨x, sk⟩ : Srt.Fd)]); infer_instance; infer_instance; infer_instance; exact rfl; exact encF_len; exact encF_one; exact rfl; exact rfl; exact rfl; assumption; exact rL_; (exact fun w hw => SV.lit [(⟨x, sk⟩ : Srt.Fd)] encF_len hw (by exact aT_) rfl rfl (by decide)); (first | decide | (constructor <;> (try simp only [List.length_cons, List.length_nil]) <;> omega) | (constructor <;> simp <;> omega)); intro a_ cp_ N_ hO_; have oN_ := hO_.own; (try simp only [List.nil_append, List.append_assoc] at hO_); (try simp only [List.append_eq, List.append_assoc, List.cons_append, List.nil_append])) | ((with_reducible first | apply o_move | apply o_assign | apply o_faddr0 | apply o_not_d | apply o_nilCheck); exact rfl; exact rfl) | ((with_reducible apply gdo_load); first | refine wo_load (h := ?_) | refine wo_loadAll (h := ?_) | refine wo_loadC (h := ?_) | refine wo_ldV (h := ?_) | refine wo_ldF (h := ?_)) | ((with_reducible first | apply o_lss | apply o_extract); exact rfl; exact rfl; exact rfl) | ((with_reducible apply o_not); exact rfl; exact rfl) | ((with_reducible apply o_add); exact rfl; exact rfl; exact rfl; (constructor <;> omega)) | ((with_reducible apply o_pick_t); exact rfl; exact tT_; exact rfl; exact rfl) | ((with_reducible first | apply o_alloc | apply o_makeMap0); exact rfl; intro _) | ((with_reducible apply gdo_store); first | refine wo_store1 (h := ?_) | refine wo_storeA (h := ?_)) | ((with_reducible apply gdo_build); first | refine wo_build (h := ?_)) | ((with_reducible apply gdo_buildSlice); refine wo_buildSlice (h := fun _ => ?_)) | ((with_reducible apply o_idx); infer_instance; infer_instance; exact rfl; exact rfl; (first | exact rfl | omega); exact rfl; (first | assumption | omega | decide)) | ((with_reducible first | apply g_run); exact rfl; exact gG_) | ((with_reducible first | apply c_seq | apply c_block | apply c_region | apply c_nil | apply c_ret | apply c_exit | apply c_skip)) | ((with_reducible apply c_cond_t); exact rfl; exact tT_) | ((with_reducible first | apply e_then | apply e_then_ret | apply e_then_exit | apply e_in | apply e_in_ret | apply e_in_same)))
            refine l_again (i + 1, (a_, cp_), N_) ⟨by dsimp only; omega, by dsimp only; rw [hsn2]; exact hO_⟩ (by dsimp only; omega) ?_ ?_
            · dsimp only; rw [hsn2]; exact fS_
            · exact hS_
  obtain rfl : i = items.length := by omega
  rw [List.take_length] at hO ⊢
  have e5 : (items.map (Plt.feedOf stops y)).length = items.length := List.length_map ..
  rw [e5] at hO ⊢
  repeat' (first | ((with_reducible apply c_cond_f); exact rfl; exact decide_eq_false (by omega)) | ((with_reducible first | apply o_move | apply o_assign | apply o_faddr0 | apply o_not_d | apply o_nilCheck); exact rfl; exact rfl) | ((with_reducible first | apply o_lss | apply o_extract); exact rfl; exact rfl; exact rfl) | ((with_reducible first | apply c_seq | apply c_block | apply c_region | apply c_nil | apply c_ret | apply c_exit | apply c_skip)) | ((with_reducible first | apply e_then | apply e_then_ret | apply e_then_exit | apply e_in | apply e_in_ret | apply e_in_same)))
  apply r_body; apply res1 Try.results46; exact rV_; intro w' hw
  exact ⟨_, NF, rfl, ⟨af, cf, rfl, hO, oF⟩, hw.sub (by exact hS_), oF⟩
end Go.Proofs.Ytkhaemjoekfhiaa
namespace Go.Sx.Plt
theorem putRows_as {V : Type} (id i n : Int) : ∀ (l : List V) (k : Nat) (m : List ((Int × Int) × V)), asF (i, n) (putRows id k l m) = if i = id ∧ (k : Int) ≤ n ∧ n < k + l.length then l[(n - k).toNat]? else asF (i, n) m
  | [], k, m => by
    rw [putRows, if_neg]
    rintro ⟨_, h1, h2⟩
    simp at h2; omega
  | a :: r, k, m => by
    rw [putRows, putRows_as id i n r (k + 1) _, asF_put]
    by_cases hi : i = id
    · subst hi
      by_cases h1 : (k : Int) = n
      · subst h1
        rw [if_neg (by rintro ⟨_, h, _⟩; omega), if_pos rfl, if_pos ⟨rfl, by omega, by simp; omega⟩]
        simp
      · have hne : ¬ ((i, (k : Int)) = (i, n)) := fun h => h1 (Prod.mk.inj h).2
        rw [if_neg hne]
        by_cases h2 : ((k + 1 : Nat) : Int) ≤ n ∧ n < ((k + 1 : Nat) : Int) + r.length
        · rw [if_pos ⟨rfl, h2⟩, if_pos ⟨rfl, by omega, by rw [List.length_cons]; omega⟩]
          rw [show (n - (k : Int)).toNat = (n - ((k + 1 : Nat) : Int)).toNat + 1 from by omega, List.getElem?_cons_succ]
        · rw [if_neg (fun h => h2 h.2), if_neg (by rintro ⟨_, h3, h4⟩; rw [List.length_cons] at h4; omega)]
    · rw [if_neg (fun h => hi h.1), if_neg (fun h => hi (Prod.mk.inj h).1.symm), if_neg (fun h => hi h.1)]
theorem putRows_nodup {V : Type} (id : Int) : ∀ (l : List V) (k : Nat) (m : List ((Int × Int) × V)), (m.map Prod.fst).Nodup → ((putRows id k l m).map Prod.fst).Nodup
  | [], _, _, h => h
  | a :: r, k, m, h => by rw [putRows]; exact putRows_nodup id r (k + 1) _ (putF_nodup h)
theorem putRows_snoc {V : Type} (id : Int) (a : V) : ∀ (l : List V) (k : Nat) (m : List ((Int × Int) × V)), putRows id k (l ++ [a]) m = putF (id, ((k + l.length : Nat) : Int)) a (putRows id k l m)
  | [], k, m => by simp [putRows]
  | b :: r, k, m => by
    rw [List.cons_append, putRows, putRows, putRows_snoc id a r (k + 1) _, List.length_cons]
    rw [show k + 1 + r.length = k + (r.length + 1) from by omega]
end Go.Sx.Plt
namespace Go.Proofs.Ytkhaemjoekfhiaa
open Go Go.Sx Go.RowKit
attribute [local irreducible] WL WC WQ WR WB WF QB St Exit.then Exit.inBlock Exit.noGoto bodyPost roundPost beginK YR RG BM Calls B AgainD MeetD
/-! ## a run's value -/
structure RD where
  pass : Int
  start : Int
  fin : Int
  items : SD
  slices : SD
  stk : SD
  sw : SD
  ov : SD
  rj : SD
  ev : SD
def encRD (d : RD) : List Value := [.int .i64 d.pass, .int .i64 d.start, .int .i64 d.fin, sdV d.items, sdV d.slices, sdV d.stk, sdV d.sw, sdV d.ov, sdV d.rj, sdV d.ev]
theorem encRD_len : ∀ x, (encRD x).length = 10 := fun _ => rfl
theorem encRD_one : ∀ x, (encRD x).all (·.oneCell') = true := fun _ => rfl
def runDV (d : RD) : Value := .agg #[.int .i64 d.pass, .int .i64 d.start, .int .i64 d.fin, sdV d.items, sdV d.slices, sdV d.stk, sdV d.sw, sdV d.ov, sdV d.rj, sdV d.ev]
structure RunV (w : World) (d : RD) (r : Plt.Run) : Prop where
  pass : d.pass = r.pass
  start : d.start = r.start
  fin : d.fin = r.fin
  items : SV w 1 encI (sdV d.items) r.items
  slices : SV w 3 encSl (sdV d.slices) (Plt.slc3 r.pass r.slices)
  stk : ∃ ss, SV w 1 encS (sdV d.stk) ss ∧ SL w 1 encI ss r.res.stackers
  ov : SV w 1 encI (sdV d.ov) r.res.over
  rj : SV w 1 encI (sdV d.rj) r.res.rej
theorem RunV.keep {w0 w : World} {L : List Ent} {d : RD} {r : Plt.Run} (h : RunV w0 d r) (hw : Rep w0 w L) (ho : AO L) : RunV w d r :=
  ⟨h.pass, h.start, h.fin, h.items.keep hw ho, h.slices.keep hw ho, by obtain ⟨ss, h1, h2⟩ := h.stk; exact ⟨ss, h1.keep hw ho, h2.keep hw ho⟩, h.ov.keep hw ho, h.rj.keep hw ho⟩
def nsd : SD := (none, 0, 0)
def missD (id : Int) : RD := ⟨id, -1, -1, nsd, nsd, nsd, nsd, nsd, nsd, nsd⟩
theorem RunV.missed (w : World) (y : Plt.Pass) : RunV w (missD y.id) (Plt.missed y) := by
  refine ⟨rfl, rfl, rfl, SV.nil, SV.nil, ⟨[], SV.nil, ⟨rfl, fun i s xs h => by simp at h⟩⟩, SV.nil, SV.nil⟩
/-- What run leaves. -/
def hrunφ (bh bm bs bi be bf : Nat) (ml : List (Int × MD)) (stops : List (Int × Int)) (NX : List Ent) (R : Plt.Run × Plt.Hall) (v : Value) (G : List Ent) : Prop :=
  ∃ d its NW, v = runDV d ∧ G = hallG bh bm bs bi be bf ml stops its R.2.ends R.2.free ++ (NW ++ NX) ∧ (∀ x ∈ NW, x.own = true) ∧ (its.map Prod.fst).Nodup ∧ Shw NW (fun w => RunV w d R.1) ∧
    (∀ s sd, asF s its = some sd → Shw (NW ++ NX) (fun w => SV w 1 encI (sdV sd) (R.2.row s))) ∧ ∀ s, asF s its = none → R.2.row s = []
theorem hrunφ.missed {bh bm bs bi be bf : Nat} {ml : List (Int × MD)} {stops : List (Int × Int)} {NX : List Ent} {h : Plt.Hall} {its : List ((Int × Int) × SD)} {y : Plt.Pass} (hn : (its.map Prod.fst).Nodup) (hrow : ∀ s sd, asF s its = some sd → Shw NX (fun w => SV w 1 encI (sdV sd) (h.row s))) (hrow0 : ∀ s, asF s its = none → h.row s = []) :
    hrunφ bh bm bs bi be bf ml stops NX (Plt.missed y, h) (runDV (missD y.id)) (hallG bh bm bs bi be bf ml stops its h.ends h.free ++ NX) :=
  ⟨_, its, [], rfl, rfl, by simp, hn, fun _ w _ _ _ _ => RunV.missed w y, hrow, hrow0⟩
end Go.Proofs.Ytkhaemjoekfhiaa
