/- A part of the proofs of this seat: a small logic of walks, plain laws, and what some of the program's functions compute, shown by walks through their code. Conditions: the hypotheses that each theorem names. -/
import Derived.Test.YtkhaemjoekfhiaaZPRoutes3
import Derived.Test.YtkhaemjoekfhiaaZPRoutes7
set_option linter.unusedSimpArgs false
set_option linter.unusedVariables false
set_option linter.unusedSectionVars false
namespace Go.Sx.Plt
def idxF (x : Int) : List Int → Option Nat
  | [] => none
  | a :: r => if a = x then some 0 else (idxF x r).map (· + 1)
theorem idxF_none {x : Int} : ∀ {l : List Int}, idxF x l = none ↔ x ∉ l
  | [] => by simp [idxF]
  | a :: r => by
    rw [idxF]
    by_cases h : a = x
    · simp [h]
    · have h' : ¬ x = a := fun e => h e.symm
      simp [h, h', idxF_none (l := r)]
theorem idxF_at {x : Int} : ∀ {l : List Int} {i : Nat}, (∀ j, j < i → l[j]? ≠ some x) → l[i]? = some x → idxF x l = some i
  | [], i, _, h => by simp at h
  | a :: r, 0, _, h => by simp at h; simp [idxF, h]
  | a :: r, i + 1, hn, h => by
    have h0 : a ≠ x := fun e => hn 0 (by omega) (by simp [e])
    rw [idxF, if_neg h0, idxF_at (i := i) (fun j hj => by have := hn (j + 1) (by omega); simpa using this) (by simpa using h)]; rfl
theorem idxF_some {x : Int} : ∀ {l : List Int} {i : Nat}, idxF x l = some i → l[i]? = some x ∧ ∀ j, j < i → l[j]? ≠ some x
  | [], i, h => by simp [idxF] at h
  | a :: r, i, h => by
    rw [idxF] at h
    by_cases e : a = x
    · rw [if_pos e] at h; cases h; exact ⟨by simp [e], fun j hj => by omega⟩
    · rw [if_neg e] at h
      cases hr : idxF x r with
      | none => rw [hr] at h; cases h
      | some k =>
        rw [hr] at h
        simp at h
        subst h
        obtain ⟨h1, h2⟩ := idxF_some hr
        refine ⟨by simpa using h1, fun j hj => ?_⟩
        cases j with
        | zero => simp [e]
        | succ j => simpa using h2 j (by omega)
def idxI (x : Int) (l : List Int) : Int := match idxF x l with | none => -1 | some i => i
/-- The first stacker that has an item. -/
def stkF (x : Int) : Nat → List (List Int) → Option Nat
  | _, [] => none
  | k, l :: r => if x ∈ l then some k else stkF x (k + 1) r
def placeF (r : Run) (x : Int) : Int × Int × Int :=
  match stkF x 0 r.res.stackers with
  | some k => (2, r.pass, k)
  | none => if x ∈ r.res.over then (3, r.pass, 0) else (4, r.pass, 0)
/-- The minute with a number. -/
def minuteF : List (Int × Int) → Int → Option Int
  | [], _ => none
  | s :: r, n => if n < s.2 - s.1 then some (s.1 + n) else minuteF r (n - (s.2 - s.1))
def sortedF (r : Run) (x rate t : Int) : Bool := match idxF x r.items with
  | none => false
  | some i => match minuteF r.slices ((i : Int) / rate) with
    | none => false
    | some m => decide (m < t)
end Go.Sx.Plt
namespace Go.Sx
open Go Go.RowKit
section
variable {r : Option Nat} {P : Program} {n : Nat} {D : List Deferred} {w0 : World} {F : List (Nat × Value)} {L L' : List Ent} {Q : Exit → Act → World → Prop} {ops : Array Oper}
variable {d : Tmp} {ty : TypeId} {pos : String} {af : Array Edge} {rest : List Oper}
/-- What holds in every world may be used. -/
theorem st_know {p : Prop} {X : Act → World → Prop} (hp : ∀ w, Rep w0 w L → p) (h : p → St n D w0 F L X) : St n D w0 F L X := fun a w ha hw => h (hp w hw) a w ha hw
theorem SV.cell {α : Type} {w : World} {k m c b off i j : Nat} {enc : α → List Value} {xs : List α} {x : α} {u : Value} (h : SV w k enc (.slice (some ⟨b, off, none⟩) m c) xs) (hx : xs[i]? = some x) (hj : (enc x)[j]? = some u) : w.cell? ⟨b, off + i * k + j, none⟩ = some u := by
  obtain ⟨_, _, e1, _, hop⟩ := h.open
  cases e1
  obtain ⟨b', off', cc, e, fz, e2, hk, hp⟩ := hop (by have := (List.getElem?_eq_some_iff.1 hx).1; omega)
  cases e2
  have := hp.get hx j u hj
  simp [World.cell?, hk, this]
theorem o_ldP {t : TypeId} {x : Operand} {b p : Nat} {v : Value} (hA : TA P t false) (hx : ev F x = some (.pointer (some ⟨b, p, none⟩))) (hc : ∀ w, Rep w0 w L → w.cell? ⟨b, p, none⟩ = some v)
    (hd : Nat.ble (d + 1) n = true) (h : St n D w0 ((d, v) :: F) L (WL r P ops Q rest)) : St n D w0 F L (WL r P ops Q (⟨some d, .load t x, ty, pos, af, none⟩ :: rest)) :=
  o_val rfl hd (fun a w ha hw => by
    simp [execOp, ha.eval hx, Instr.loadAt, Instr.sureAddr, loadVar, TA.h (P := P) (t := t), hc w hw]) h
theorem o_ldPV {t : TypeId} {k : Nat} {x : Operand} {b p : Nat} {l : List Value} (hA : TA P t true) (hS : TS P t k) (hx : ev F x = some (.pointer (some ⟨b, p, none⟩))) (hc : ∀ w, Rep w0 w L → ∀ j v, l[j]? = some v → w.cell? ⟨b, p + j, none⟩ = some v) (hl : l.length = k)
    (hd : Nat.ble (d + 1) n = true) (h : St n D w0 ((d, .agg l.toArray) :: F) L (WL r P ops Q rest)) : St n D w0 F L (WL r P ops Q (⟨some d, .load t x, ty, pos, af, none⟩ :: rest)) :=
  o_val rfl hd (fun a w ha hw => by
    subst hl
    have hc := run_loadCells_list (P := P) w ⟨b, p, none⟩ l (fun j v hj => by rw [add_none]; exact hc w hw j v hj)
    simp [execOp, ha.eval hx, Instr.loadAt, Instr.sureAddr, loadVar, TA.h (P := P) (t := t), TS.h (P := P) (t := t), hc]) h
end
end Go.Sx
namespace Go.Proofs.Ytkhaemjoekfhiaa
open Go Go.Sx Go.RowKit
attribute [local irreducible] WL WC WQ WR WB WF QB St Exit.then Exit.inBlock Exit.noGoto bodyPost roundPost beginK YR RG BM Calls B AgainD MeetD
/-! ## where an item is in a run -/
theorem index_calls {v : Value} {l : List Int} (x : Int) (w : World) (h : SV w 1 encI v l) : Calls Try.prog 50 #[v, .int .i64 x] w fun e w' => e = .returned (.int .i64 (Plt.idxI x l)) ∧ Below w.heap.size w w' := by
  obtain ⟨a0, c0, rfl, hc, hop⟩ := h.open
  refine f_enter2 Try.func50 rfl Try.ntmps50 rfl (Rep.start w) ?_
  repeat' (first | ((with_reducible first | apply o_move | apply o_assign); exact rfl; exact rfl) | ((with_reducible apply o_len); infer_instance; exact rfl; exact rfl) | ((with_reducible first | apply c_seq | apply c_block | apply c_region | apply c_nil | apply c_ret | apply c_exit | apply c_skip)) | ((with_reducible first | apply e_then | apply e_then_ret | apply e_then_exit | apply e_in | apply e_in_ret | apply e_in_same)))
  apply c_loop (σ := Nat) (Fs := fun i => [(8, .int .i64 i), (7, .int .i64 l.length), (0, .slice a0 l.length c0), (1, .int .i64 x)]) (Ls := fun i => []) (I := fun i => i ≤ l.length ∧ ∀ j, j < i → l[j]? ≠ some x) (μ := fun i => l.length - i) (s0 := 0)
  · exact ⟨Nat.zero_le _, fun j hj => by omega⟩
  · exact fS_
  · exact hS_
  rintro i ⟨hi, hno⟩
  by_cases hlt : i < l.length
  · obtain ⟨y, hx⟩ : ∃ y, l[i]? = some y := ⟨_, List.getElem?_eq_getElem hlt⟩
    obtain ⟨b, off, cc, e, fz, rfl, hk, hp⟩ := hop (by omega)
    have g1 := hp.one hx rfl
    by_cases hxy : x = y
    · subst hxy
      have e1 : Plt.idxI x l = (i : Int) := by unfold Plt.idxI; rw [Plt.idxF_at hno hx]
      rw [e1]
      as_aux_lemma =>
        repeat' (first | ((with_reducible apply c_cond_t); exact rfl; exact decide_eq_true (by omega)) | ((with_reducible first | apply o_move | apply o_assign); exact rfl; exact rfl) | ((with_reducible apply gdo_load); first | refine wo_load (h := ?_) | refine wo_loadAll (h := ?_) | refine wo_loadC (h := ?_) | refine wo_ldV (h := ?_) | refine wo_ldF (h := ?_)) | ((with_reducible first | apply o_lss | apply o_eql); exact rfl; exact rfl; exact rfl) | ((with_reducible apply o_idx); infer_instance; infer_instance; exact rfl; exact rfl; (first | exact rfl | omega); exact rfl; (first | assumption | omega | decide)) | ((with_reducible first | apply c_seq | apply c_block | apply c_region | apply c_nil | apply c_ret | apply c_exit | apply c_skip)) | ((with_reducible first | apply e_then | apply e_then_ret | apply e_then_exit | apply e_in | apply e_in_ret | apply e_in_same)))
        apply r_body; apply res1 Try.results50; exact rV_; intro w' hw
        exact ⟨rfl, hw.below (by simp)⟩
    · have hno2 : ∀ j, j < i + 1 → l[j]? ≠ some x := fun j hj => by
        by_cases hji : j = i
        · subst hji; rw [hx]; intro e; cases e; exact hxy rfl
        · exact hno j (by omega)
      as_aux_lemma =>
        repeat' (first | ((with_reducible apply c_cond_t); exact rfl; exact decide_eq_true (by omega)) | ((with_reducible apply c_cond_f); exact rfl; exact decide_eq_false (by omega)) | ((with_reducible first | apply o_move | apply o_assign); exact rfl; exact rfl) | ((with_reducible apply gdo_load); first | refine wo_load (h := ?_) | refine wo_loadAll (h := ?_) | refine wo_loadC (h := ?_) | refine wo_ldV (h := ?_) | refine wo_ldF (h := ?_)) | ((with_reducible first | apply o_lss | apply o_eql); exact rfl; exact rfl; exact rfl) | ((with_reducible apply o_add); exact rfl; exact rfl; exact rfl; (constructor <;> omega)) | ((with_reducible apply o_idx); infer_instance; infer_instance; exact rfl; exact rfl; (first | exact rfl | omega); exact rfl; (first | assumption | omega | decide)) | ((with_reducible first | apply c_seq | apply c_block | apply c_region | apply c_nil | apply c_ret | apply c_exit | apply c_skip)) | ((with_reducible first | apply e_then | apply e_then_ret | apply e_then_exit | apply e_in | apply e_in_ret | apply e_in_same)))
        refine l_again (i + 1) ⟨by omega, hno2⟩ (by omega) ?_ ?_
        · exact fS_
        · exact hS_
  obtain rfl : i = l.length := by omega
  have e1 : Plt.idxI x l = -1 := by
    unfold Plt.idxI
    rw [Plt.idxF_none.2 (fun hm => by obtain ⟨j, hj⟩ := List.getElem?_of_mem hm; exact hno j (List.getElem?_eq_some_iff.1 hj).1 hj)]
  rw [e1]
  repeat' (first | ((with_reducible apply c_cond_f); exact rfl; exact decide_eq_false (by omega)) | ((with_reducible first | apply o_move | apply o_assign); exact rfl; exact rfl) | ((with_reducible first | apply o_lss | apply o_eql); exact rfl; exact rfl; exact rfl) | ((with_reducible first | apply c_seq | apply c_block | apply c_region | apply c_nil | apply c_ret | apply c_exit | apply c_skip)) | ((with_reducible first | apply e_then | apply e_then_ret | apply e_then_exit | apply e_in | apply e_in_ret | apply e_in_same)))
  apply r_body; apply res1 Try.results50; exact rV_; intro w' hw
  exact ⟨rfl, hw.below (by simp)⟩
theorem contains_calls {v : Value} {l : List Int} (x : Int) (w : World) (h : SV w 1 encI v l) : Calls Try.prog 52 #[v, .int .i64 x] w fun e w' => e = .returned (.bool (decide (x ∈ l))) ∧ Below w.heap.size w w' := by
  have hd : decide (x ∈ l) = decide (Plt.idxI x l ≥ 0) := by
    unfold Plt.idxI
    cases hx : Plt.idxF x l with
    | none => rw [decide_eq_false (Plt.idxF_none.1 hx)]; rfl
    | some i =>
      have := (Plt.idxF_some hx).1
      rw [decide_eq_true (List.mem_of_getElem? this)]
      simp
  rw [hd]
  refine f_enter2 Try.func52 rfl Try.ntmps52 rfl (Rep.start w) ?_
  repeat' (first | ((first | ((with_reducible apply o_call_pure (f := 50)); exact rfl) | ((with_reducible apply q_call_pure (f := 50)); exact rfl; kernel_rfl; exact rfl; exact sJ_)); exact eV_; exact (fun w hw => index_calls x w (h.keep hw (by exact aO_)))) | ((with_reducible first | apply o_move | apply o_assign); exact rfl; exact rfl) | ((with_reducible apply o_geq); exact rfl; exact rfl; exact rfl) | ((with_reducible first | apply c_seq | apply c_block | apply c_region | apply c_nil | apply c_ret | apply c_exit | apply c_skip)) | ((with_reducible first | apply e_then | apply e_then_ret | apply e_then_exit | apply e_in | apply e_in_ret | apply e_in_same)))
  apply r_body; apply res1 Try.results52; exact rV_; intro w' hw
  exact ⟨rfl, hw.below (by simp)⟩
theorem contains_is {v : Value} {l : List Int} {x : Int} {b : Bool} (hb : decide (x ∈ l) = b) (w : World) (h : SV w 1 encI v l) : Calls Try.prog 52 #[v, .int .i64 x] w fun e w' => e = .returned (.bool b) ∧ Below w.heap.size w w' := by
  subst hb; exact contains_calls x w h
set_option maxHeartbeats 4000000 in
theorem place_calls {d : RD} {r : Plt.Run} {x : Int} {kd ps nu : Int} (he : Plt.placeF r x = (kd, ps, nu)) (w : World) (h : RunV w d r) : Calls Try.prog 34 #[runDV d, .int .i64 x] w fun e w' => e = .returned (.agg #[.int .u8 kd, .int .i64 ps, .int .i64 nu]) ∧ Below w.heap.size w w' := by
  obtain ⟨hp, -, -, hI, hS, ⟨ss, h1, h2⟩, hO, hR⟩ := h
  obtain ⟨dp, ds, df, ⟨a1, n1, c1⟩, ⟨a2, n2, c2⟩, ⟨a3, n3, c3⟩, ⟨a4, n4, c4⟩, ⟨a5, n5, c5⟩, ⟨a6, n6, c6⟩, ⟨a7, n7, c7⟩⟩ := d
  unfold runDV
  dsimp only [sdV] at hp hI hS h1 hO hR ⊢
  subst hp
  obtain ⟨_, _, e1, hc1, hop1⟩ := h1.open
  cases e1
  have hsl := h2.1
  unfold Plt.placeF at he
  refine f_enter2 Try.func34 rfl Try.ntmps34 rfl (Rep.start w) ?_
  repeat' (first | ((with_reducible first | apply o_move | apply o_assign | apply o_faddr0); exact rfl; exact rfl) | ((with_reducible apply o_faddr); exact rfl; exact rfl) | ((with_reducible apply gdo_load); first | refine wo_load (h := ?_) | refine wo_loadAll (h := ?_) | refine wo_loadC (h := ?_) | refine wo_ldV (h := ?_) | refine wo_ldF (h := ?_)) | ((with_reducible apply o_alloc); exact rfl; intro _) | ((with_reducible apply o_box); exact rfl; exact rfl; exact rfl; intro _) | ((with_reducible apply o_len); infer_instance; exact rfl; exact rfl) | ((with_reducible first | apply c_seq | apply c_block | apply c_region | apply c_nil | apply c_ret | apply c_exit | apply c_skip)) | ((with_reducible first | apply e_then | apply e_then_ret | apply e_then_exit | apply e_in | apply e_in_ret | apply e_in_same)))
  rename_i b2 b4
  apply c_loop (σ := Nat) (Fs := fun i => [(11, .int .i64 i), (10, .int .i64 ss.length), (9, .slice a3 ss.length c3), (4, ptr b4), (2, ptr b2), (1, .int .i64 x)])
    (Ls := fun i => [⟨b4, Ce [.int .u8 0, .int .i64 0, .int .i64 0] 40, true⟩, ⟨b2, Ce [.int .i64 r.pass, .int .i64 ds, .int .i64 df, .slice a1 n1 c1, .slice a2 n2 c2, .slice a3 ss.length c3, .slice a4 n4 c4, .slice a5 n5 c5, .slice a6 n6 c6, .slice a7 n7 c7] 50, true⟩])
    (I := fun i => i ≤ ss.length ∧ Plt.stkF x 0 r.res.stackers = Plt.stkF x i (r.res.stackers.drop i)) (μ := fun i => ss.length - i) (s0 := 0)
  · exact ⟨Nat.zero_le _, rfl⟩
  · exact fS_
  · exact hS_
  rintro i ⟨hi, hst⟩
  by_cases hlt : i < ss.length
  · obtain ⟨⟨sa, sn, sc⟩, hx⟩ : ∃ s, ss[i]? = some s := ⟨_, List.getElem?_eq_getElem hlt⟩
    obtain ⟨l, hy⟩ : ∃ l, r.res.stackers[i]? = some l := ⟨_, List.getElem?_eq_getElem (by omega)⟩
    have hsv := h2.2 i _ _ hx hy
    dsimp only [sdV] at hsv
    obtain ⟨b, off, cc, e, fz, rfl, hk, hpt⟩ := hop1 (by omega)
    have g1 : cc[off + i * 1]? = some (.slice sa sn sc) := hpt.one hx rfl
    rw [drop_at hy, Plt.stkF] at hst
    cases hb : decide (x ∈ l) with
    | true =>
      rw [if_pos (of_decide_eq_true hb)] at hst
      rw [hst] at he
      cases he
      as_aux_lemma =>
        repeat' (first | ((with_reducible apply c_cond_t); exact rfl; exact decide_eq_true (by omega)) | ((first | ((with_reducible apply o_call_pure (f := 52)); exact rfl) | ((with_reducible apply q_call_pure (f := 52)); exact rfl; kernel_rfl; exact rfl; exact sJ_)); exact eV_; exact (fun w hw => contains_is hb w (hsv.keep hw (by exact aO_)))) | ((with_reducible first | apply o_move | apply o_assign | apply o_faddr0); exact rfl; exact rfl) | ((with_reducible apply gdo_load); first | refine wo_load (h := ?_) | refine wo_loadAll (h := ?_) | refine wo_loadC (h := ?_) | refine wo_ldV (h := ?_) | refine wo_ldF (h := ?_)) | ((with_reducible apply o_lss); exact rfl; exact rfl; exact rfl) | ((with_reducible apply gdo_store); first | refine wo_store1 (h := ?_) | refine wo_storeA (h := ?_)) | ((with_reducible apply gdo_build); first | refine wo_build (h := ?_)) | ((with_reducible apply o_idx); infer_instance; infer_instance; exact rfl; exact rfl; (first | exact rfl | omega); exact rfl; (first | assumption | omega | decide)) | ((with_reducible first | apply c_seq | apply c_block | apply c_region | apply c_nil | apply c_ret | apply c_exit | apply c_skip)) | ((with_reducible apply c_cond_t); exact rfl; exact tT_) | ((with_reducible first | apply e_then | apply e_then_ret | apply e_then_exit | apply e_in | apply e_in_ret | apply e_in_same)))
        apply r_body; apply res1 Try.results34; exact rV_; intro w' hw
        exact ⟨rfl, hw.below (by simp)⟩
    | false =>
      rw [if_neg (of_decide_eq_false hb)] at hst
      as_aux_lemma =>
        repeat' (first | ((with_reducible apply c_cond_t); exact rfl; exact decide_eq_true (by omega)) | ((first | ((with_reducible apply o_call_pure (f := 52)); exact rfl) | ((with_reducible apply q_call_pure (f := 52)); exact rfl; kernel_rfl; exact rfl; exact sJ_)); exact eV_; exact (fun w hw => contains_is hb w (hsv.keep hw (by exact aO_)))) | ((with_reducible first | apply o_move | apply o_assign | apply o_faddr0); exact rfl; exact rfl) | ((with_reducible apply gdo_load); first | refine wo_load (h := ?_) | refine wo_loadAll (h := ?_) | refine wo_loadC (h := ?_) | refine wo_ldV (h := ?_) | refine wo_ldF (h := ?_)) | ((with_reducible apply o_lss); exact rfl; exact rfl; exact rfl) | ((with_reducible apply o_add); exact rfl; exact rfl; exact rfl; (constructor <;> omega)) | ((with_reducible apply o_idx); infer_instance; infer_instance; exact rfl; exact rfl; (first | exact rfl | omega); exact rfl; (first | assumption | omega | decide)) | ((with_reducible first | apply c_seq | apply c_block | apply c_region | apply c_nil | apply c_ret | apply c_exit | apply c_skip)) | ((with_reducible apply c_cond_f); exact rfl; exact fF_) | ((with_reducible first | apply e_then | apply e_then_ret | apply e_then_exit | apply e_in | apply e_in_ret | apply e_in_same)))
        refine l_again (i + 1) ⟨by omega, hst⟩ (by omega) ?_ ?_
        · exact fS_
        · exact hS_
  obtain rfl : i = ss.length := by omega
  rw [hsl, List.drop_length, Plt.stkF] at hst
  rw [hst] at he
  dsimp only at he
  cases hb : decide (x ∈ r.res.over) with
  | true =>
    rw [if_pos (of_decide_eq_true hb)] at he
    cases he
    as_aux_lemma =>
      repeat' (first | ((with_reducible apply c_cond_f); exact rfl; exact decide_eq_false (by omega)) | ((first | ((with_reducible apply o_call_pure (f := 52)); exact rfl) | ((with_reducible apply q_call_pure (f := 52)); exact rfl; kernel_rfl; exact rfl; exact sJ_)); exact eV_; exact (fun w hw => contains_is hb w (hO.keep hw (by exact aO_)))) | ((with_reducible first | apply o_move | apply o_assign | apply o_faddr0); exact rfl; exact rfl) | ((with_reducible apply o_faddr); exact rfl; exact rfl) | ((with_reducible apply gdo_load); first | refine wo_load (h := ?_) | refine wo_loadAll (h := ?_) | refine wo_loadC (h := ?_) | refine wo_ldV (h := ?_) | refine wo_ldF (h := ?_)) | ((with_reducible apply o_lss); exact rfl; exact rfl; exact rfl) | ((with_reducible apply gdo_store); first | refine wo_store1 (h := ?_) | refine wo_storeA (h := ?_)) | ((with_reducible apply gdo_build); first | refine wo_build (h := ?_)) | ((with_reducible first | apply c_seq | apply c_block | apply c_region | apply c_nil | apply c_ret | apply c_exit | apply c_skip)) | ((with_reducible apply c_cond_t); exact rfl; exact tT_) | ((with_reducible first | apply e_then | apply e_then_ret | apply e_then_exit | apply e_in | apply e_in_ret | apply e_in_same)))
      apply r_body; apply res1 Try.results34; exact rV_; intro w' hw
      exact ⟨rfl, hw.below (by simp)⟩
  | false =>
    rw [if_neg (of_decide_eq_false hb)] at he
    cases he
    as_aux_lemma =>
      repeat' (first | ((with_reducible apply c_cond_f); exact rfl; exact decide_eq_false (by omega)) | ((first | ((with_reducible apply o_call_pure (f := 52)); exact rfl) | ((with_reducible apply q_call_pure (f := 52)); exact rfl; kernel_rfl; exact rfl; exact sJ_)); exact eV_; exact (fun w hw => contains_is hb w (hO.keep hw (by exact aO_)))) | ((with_reducible first | apply o_move | apply o_assign | apply o_faddr0); exact rfl; exact rfl) | ((with_reducible apply o_faddr); exact rfl; exact rfl) | ((with_reducible apply gdo_load); first | refine wo_load (h := ?_) | refine wo_loadAll (h := ?_) | refine wo_loadC (h := ?_) | refine wo_ldV (h := ?_) | refine wo_ldF (h := ?_)) | ((with_reducible apply o_lss); exact rfl; exact rfl; exact rfl) | ((with_reducible apply gdo_store); first | refine wo_store1 (h := ?_) | refine wo_storeA (h := ?_)) | ((with_reducible apply gdo_build); first | refine wo_build (h := ?_)) | ((with_reducible first | apply c_seq | apply c_block | apply c_region | apply c_nil | apply c_ret | apply c_exit | apply c_skip)) | ((with_reducible apply c_cond_f); exact rfl; exact fF_) | ((with_reducible first | apply e_then | apply e_then_ret | apply e_then_exit | apply e_in | apply e_in_ret | apply e_in_same)))
      apply r_body; apply res1 Try.results34; exact rV_; intro w' hw
      exact ⟨rfl, hw.below (by simp)⟩
end Go.Proofs.Ytkhaemjoekfhiaa
namespace Go.Sx.Plt
theorem minute_drop {l : List (Int × Int)} {i : Nat} {s : Int × Int} {q : Int} (hx : l[i]? = some s) (h : minuteF l q = minuteF (l.drop i) (q - spanF (l.take i))) (hq : spanF (l.take (i + 1)) ≤ q) : minuteF l q = minuteF (l.drop (i + 1)) (q - spanF (l.take (i + 1))) := by
  have hs := span_take hx
  obtain ⟨hlt, rfl⟩ := List.getElem?_eq_some_iff.1 hx
  rw [h, ← List.getElem_cons_drop (h := hlt), minuteF, if_neg (by omega)]
  congr 1
  omega
theorem minute_hit {l : List (Int × Int)} {i : Nat} {s : Int × Int} {q : Int} (hx : l[i]? = some s) (h : minuteF l q = minuteF (l.drop i) (q - spanF (l.take i))) (hq : q - spanF (l.take i) < s.2 - s.1) : minuteF l q = some (s.1 + (q - spanF (l.take i))) := by
  obtain ⟨hlt, rfl⟩ := List.getElem?_eq_some_iff.1 hx
  rw [h, ← List.getElem_cons_drop (h := hlt), minuteF, if_pos hq]
end Go.Sx.Plt
namespace Go.Proofs.Ytkhaemjoekfhiaa
open Go Go.Sx Go.RowKit
attribute [local irreducible] WL WC WQ WR WB WF QB St Exit.then Exit.inBlock Exit.noGoto bodyPost roundPost beginK YR RG BM Calls B AgainD MeetD
/-! ## sorted -/
theorem index_is {v : Value} {l : List Int} {x z : Int} (hz : Plt.idxI x l = z) (w : World) (h : SV w 1 encI v l) : Calls Try.prog 50 #[v, .int .i64 x] w fun e w' => e = .returned (.int .i64 z) ∧ Below w.heap.size w w' := by
  subst hz; exact index_calls x w h
set_option maxHeartbeats 4000000 in
theorem sorted_calls {d : RD} {r : Plt.Run} {x rate t : Int} (hrate : 1 ≤ rate ∧ rate ≤ 1000000) (hb : ∀ s ∈ r.slices, 0 ≤ s.1 ∧ s.1 ≤ s.2 ∧ s.2 ≤ 1051898399) (hn : r.slices.length ≤ 100000) (w : World) (h : RunV w d r) :
    Calls Try.prog 33 #[runDV d, .int .i64 x, .int .i64 rate, .int .i64 t] w fun e w' => e = .returned (.bool (Plt.sortedF r x rate t)) ∧ Below w.heap.size w w' := by
  obtain ⟨hp, -, -, hI, hS, -, -, -⟩ := h
  obtain ⟨dp, ds, df, ⟨xa1, n1, c1⟩, ⟨a2, n2, c2⟩, ⟨a3, n3, c3⟩, ⟨a4, n4, c4⟩, ⟨a5, n5, c5⟩, ⟨a6, n6, c6⟩, ⟨a7, n7, c7⟩⟩ := d
  unfold runDV
  dsimp only [sdV] at hp hI hS ⊢
  subst hp
  obtain ⟨_, _, e1, hc1, -⟩ := hI.open
  cases e1
  obtain ⟨_, _, e2, hc2, hop⟩ := hS.open
  cases e2
  have hll := Plt.slc3_len r.pass r.slices
  cases hi : Plt.idxF x r.items with
  | none =>
    have hz : Plt.idxI x r.items = -1 := by unfold Plt.idxI; rw [hi]
    have e : Plt.sortedF r x rate t = false := by unfold Plt.sortedF; rw [hi]
    rw [e]
    refine f_enterM4 Try.func33 rfl Try.ntmps33 rfl (Rep.start w) ?_
    repeat' (first | ((with_reducible apply c_cond_t); exact rfl; exact decide_eq_true (by omega)) | ((first | ((with_reducible apply o_call_pure (f := 50)); exact rfl) | ((with_reducible apply q_call_pure (f := 50)); exact rfl; kernel_rfl; exact rfl; exact sJ_)); exact eV_; exact (fun w hw => index_is hz w (hI.keep hw (by exact aO_)))) | ((with_reducible first | apply o_move | apply o_assign | apply o_faddr0); exact rfl; exact rfl) | ((with_reducible apply gdo_load); first | refine wo_load (h := ?_) | refine wo_loadAll (h := ?_) | refine wo_loadC (h := ?_) | refine wo_ldV (h := ?_) | refine wo_ldF (h := ?_)) | ((with_reducible first | apply o_lss | apply o_eql); exact rfl; exact rfl; exact rfl) | ((with_reducible apply o_alloc); exact rfl; intro _) | ((with_reducible apply o_box); exact rfl; exact rfl; exact rfl; intro _) | ((with_reducible apply gdo_store); first | refine wo_store1 (h := ?_) | refine wo_storeA (h := ?_)) | ((with_reducible first | apply c_seq | apply c_block | apply c_region | apply c_nil | apply c_ret | apply c_exit | apply c_skip)) | ((with_reducible first | apply e_then | apply e_then_ret | apply e_then_exit | apply e_in | apply e_in_ret | apply e_in_same)))
    (first | ((with_reducible apply r_M1); exact aT_; exact uP_; apply res1 Try.results33; exact rV_; intro w' hw) | ((with_reducible apply r_M0); apply res1 Try.results33; exact rV_; intro w' hw))
    exact ⟨rfl, hw.below (by simp)⟩
  | some i0 =>
  have hil := (List.getElem?_eq_some_iff.1 (Plt.idxF_some hi).1).1
  have hz : Plt.idxI x r.items = (i0 : Int) := by unfold Plt.idxI; rw [hi]
  obtain ⟨q, hq⟩ : ∃ q, (i0 : Int) / rate = q := ⟨_, rfl⟩
  have hq0 : 0 ≤ q := by rw [← hq]; exact Int.ediv_nonneg (by omega) (by omega)
  have e : Plt.sortedF r x rate t = match Plt.minuteF r.slices q with
    | none => false
    | some m => decide (m < t) := by unfold Plt.sortedF; rw [hi]; simp only; rw [hq]; (try (cases Plt.minuteF r.slices q <;> rfl))
  rw [e]
  clear e
  obtain ⟨ix, hix⟩ : ∃ ix : Int, (i0 : Int) = ix := ⟨_, rfl⟩
  have hixb : 0 ≤ ix ∧ ix ≤ 9223372036854775807 := by omega
  rw [hix] at hz hq
  refine f_enterM4 Try.func33 rfl Try.ntmps33 rfl (Rep.start w) ?_
  repeat' (first | ((with_reducible apply c_cond_f); exact rfl; exact decide_eq_false (by omega)) | ((first | ((with_reducible apply o_call_pure (f := 50)); exact rfl) | ((with_reducible apply q_call_pure (f := 50)); exact rfl; kernel_rfl; exact rfl; exact sJ_)); exact eV_; exact (fun w hw => index_is hz w (hI.keep hw (by exact aO_)))) | ((first | ((with_reducible apply o_call_new (f := 51)); exact rfl) | ((with_reducible apply q_call_new (f := 51)); exact rfl; exact rfl; exact sJ_)); exact eV_; exact (fun w _ => minutes_calls _ _ _ w); rintro v N ⟨b1, rfl, rfl⟩ <;> (try simp only [List.cons_append, List.nil_append])) | ((with_reducible first | apply o_move | apply o_assign | apply o_faddr0); exact rfl; exact rfl) | ((with_reducible apply gdo_load); first | refine wo_load (h := ?_) | refine wo_loadAll (h := ?_) | refine wo_loadC (h := ?_) | refine wo_ldV (h := ?_) | refine wo_ldF (h := ?_)) | ((with_reducible first | apply o_lss | apply o_eql); exact rfl; exact rfl; exact rfl) | ((with_reducible apply o_alloc); exact rfl; intro _) | ((with_reducible apply o_box); exact rfl; exact rfl; exact rfl; intro _) | ((with_reducible apply gdo_store); first | refine wo_store1 (h := ?_) | refine wo_storeA (h := ?_)) | ((with_reducible first | apply c_seq | apply c_block | apply c_region | apply c_nil | apply c_ret | apply c_exit | apply c_skip)) | ((with_reducible first | apply e_then | apply e_then_ret | apply e_then_exit | apply e_in | apply e_in_ret | apply e_in_same)))
  rename_i b4 b6 b7 b8 b9
  (apply c_rangeFunc1; exact rfl; infer_instance; exact rfl; exact Try.ntmps62; exact rfl; intro lp bd Z a1 ha1 hZ)
  repeat' (first | ((with_reducible first | apply o_move | apply o_assign | apply o_faddr0 | apply o_not_d); exact rfl; exact rfl) | ((with_reducible apply gdo_load); first | refine wo_load (h := ?_) | refine wo_loadAll (h := ?_) | refine wo_loadC (h := ?_) | refine wo_ldV (h := ?_) | refine wo_ldF (h := ?_)) | ((with_reducible apply o_len); infer_instance; exact rfl; exact rfl) | ((with_reducible first | apply c_seq | apply c_block | apply c_region | apply c_nil | apply c_ret | apply c_exit | apply c_skip)) | ((with_reducible first | apply e_then | apply e_then_ret | apply e_then_exit | apply e_in | apply e_in_ret | apply e_in_same)))
  apply c_loop (σ := Nat) (Fs := fun i => [(9, .int .i64 i), (8, .int .i64 (Plt.slc3 r.pass r.slices).length), (7, .slice a2 (Plt.slc3 r.pass r.slices).length c2), (3, .int .i64 (Plt.spanF (r.slices.take i))), (0, .func (.yield lp) #[] #[]), (1, ptr b1)])
    (Ls := fun i => [⟨lp, Z .ready none, true⟩, ⟨bd, .deferred (some []), true⟩, ⟨b1, Ce [.slice a2 (Plt.slc3 r.pass r.slices).length c2] 44, true⟩, ⟨b9, Ce [.int .i64 ix] 3, true⟩, ⟨b8, Ce [.bool false] 4, true⟩, ⟨b7, Ce [.int .i64 t] 3, true⟩, ⟨b6, Ce [.int .i64 rate] 3, true⟩, ⟨b4, Ce [.int .i64 r.pass, .int .i64 ds, .int .i64 df, .slice xa1 r.items.length c1, .slice a2 (Plt.slc3 r.pass r.slices).length c2, .slice a3 n3 c3, .slice a4 n4 c4, .slice a5 n5 c5, .slice a6 n6 c6, .slice a7 n7 c7] 50, true⟩])
    (I := fun i => i ≤ r.slices.length ∧ Plt.spanF (r.slices.take i) ≤ q ∧ Plt.minuteF r.slices q = Plt.minuteF (r.slices.drop i) (q - Plt.spanF (r.slices.take i))) (μ := fun i => r.slices.length - i) (s0 := 0)
  · exact ⟨Nat.zero_le _, by simpa [Plt.spanF] using hq0, by simp [Plt.spanF]⟩
  · exact fS_
  · exact hS_
  rintro i ⟨hi2, hspq, hmq⟩
  have hsb := Plt.span_bd (l := r.slices.take i) fun s hs => hb s (List.mem_of_mem_take hs)
  have hsb0 := Plt.span_nonneg (l := r.slices.take i) fun s hs => (hb s (List.mem_of_mem_take hs)).2.1
  have htl : ((r.slices.take i).length : Int) ≤ 100000 := by rw [List.length_take]; omega
  by_cases hlt : i < r.slices.length
  · obtain ⟨⟨f, u⟩, hx⟩ : ∃ s, r.slices[i]? = some s := ⟨_, List.getElem?_eq_getElem hlt⟩
    have hfu := hb _ (List.mem_of_getElem? hx)
    dsimp only at hfu
    obtain ⟨bs, os, cc, e, fz, rfl, hk, hpt⟩ := hop (by omega)
    have g1 : ∀ j v, ([.int .i64 r.pass, .int .i64 f, .int .i64 u] : List Value)[j]? = some v → cc[os + i * 3 + j]? = some v := hpt.get (slc3_get hx)
    have hst := Plt.span_take hx
    have hhit := Plt.minute_hit hx hmq
    have hnext := Plt.minute_drop hx hmq
    dsimp only at hst hhit
    rw [hst] at hnext
    have hst' := hst
    generalize Plt.spanF (r.slices.take i) = n at hsb hsb0 hst hhit hspq hnext hst' ⊢
    clear hmq
    repeat' (first | ((with_reducible first | apply o_move | apply o_assign | apply o_faddr0 | apply o_not_d); exact rfl; exact rfl) | ((with_reducible apply gdo_load); first | refine wo_load (h := ?_) | refine wo_loadAll (h := ?_) | refine wo_loadC (h := ?_) | refine wo_ldV (h := ?_) | refine wo_ldF (h := ?_)) | ((with_reducible first | apply o_lss | apply o_eql); exact rfl; exact rfl; exact rfl) | ((with_reducible apply o_alloc); exact rfl; intro _) | ((with_reducible apply gdo_store); first | refine wo_store1 (h := ?_) | refine wo_storeA (h := ?_)) | ((with_reducible apply o_idx); infer_instance; infer_instance; exact rfl; exact rfl; (first | exact rfl | omega); exact rfl; (first | assumption | omega | decide)) | ((with_reducible first | apply c_seq | apply c_block | apply c_region | apply c_nil | apply c_ret | apply c_exit | apply c_skip)) | ((with_reducible apply c_cond_t); exact rfl; exact tT_) | ((with_reducible first | apply e_then | apply e_then_ret | apply e_then_exit | apply e_in | apply e_in_ret | apply e_in_same)))
    rename_i b5
    apply c_loop (σ := Int) (Fs := fun m => [(6, .int .i64 m), (5, ptr b5), (9, .int .i64 i), (8, .int .i64 (Plt.slc3 r.pass r.slices).length), (7, .slice (some ⟨bs, os, none⟩) (Plt.slc3 r.pass r.slices).length c2), (3, .int .i64 (n + (m - f))), (0, .func (.yield lp) #[] #[]), (1, ptr b1)])
      (Ls := fun m => [⟨b5, Ce [.int .i64 r.pass, .int .i64 f, .int .i64 u] 68, true⟩, ⟨lp, Z .ready none, true⟩, ⟨bd, .deferred (some []), true⟩, ⟨b1, Ce [.slice (some ⟨bs, os, none⟩) (Plt.slc3 r.pass r.slices).length c2] 44, true⟩, ⟨b9, Ce [.int .i64 ix] 3, true⟩, ⟨b8, Ce [.bool false] 4, true⟩, ⟨b7, Ce [.int .i64 t] 3, true⟩, ⟨b6, Ce [.int .i64 rate] 3, true⟩, ⟨b4, Ce [.int .i64 r.pass, .int .i64 ds, .int .i64 df, .slice xa1 r.items.length c1, .slice (some ⟨bs, os, none⟩) (Plt.slc3 r.pass r.slices).length c2, .slice a3 n3 c3, .slice a4 n4 c4, .slice a5 n5 c5, .slice a6 n6 c6, .slice a7 n7 c7] 50, true⟩])
      (I := fun m => (f ≤ m ∧ m ≤ u) ∧ n + (m - f) ≤ q) (μ := fun m => (u - m).toNat) (s0 := f)
    · exact ⟨by omega, by omega⟩
    · (try dsimp only); rw [show n + (f - f) = n from by omega]; exact fS_
    · exact hS_
    rintro m ⟨⟨hm1, hm2⟩, hmq2⟩
    by_cases hmu : m < u
    · have es : n + (m - f) + 1 = n + (m + 1 - f) := by omega
      by_cases hhq : n + (m - f) = q
      · have hres : Plt.minuteF r.slices q = some m := by rw [hhit (by omega)]; congr 1; omega
        rw [hres]
        as_aux_lemma =>
          repeat' (first | ((with_reducible apply c_cond_t); exact rfl; exact decide_eq_true (by omega)) | ((with_reducible apply o_quoE (v := q)); exact rfl; exact rfl; exact hq; omega; exact rfl) | ((with_reducible apply o_yield); exact rfl; exact eV_; assumption; assumption; exact aT_; exact rfl; exact rfl; (repeat (first | exact RPar.nil | apply RPar.cons)); intro aI haI) | ((with_reducible apply e_begin); assumption; exact aT_; exact uP_) | (first | ((with_reducible apply e_round); assumption; exact rfl; assumption; exact aT_; exact uP_) | ((with_reducible apply e_round_ret); assumption; exact rfl; assumption; exact aT_; exact uP_) | ((with_reducible apply e_round_exit); assumption; exact rfl; assumption; exact aT_; exact uP_)) | (first | apply r_iter Try.results62 | apply r_iter' Try.results62) | (first | ((with_reducible apply e_range); assumption; assumption; exact aT_; (intro hst; cases hst); exact uP_) | ((with_reducible apply e_rangeJ); assumption; assumption; exact aT_; (intro hst; cases hst); exact uP_)) | ((with_reducible first | apply o_move | apply o_assign | apply o_faddr0 | apply o_not_d); exact rfl; exact rfl) | ((with_reducible apply gdo_load); first | refine wo_load (h := ?_) | refine wo_loadAll (h := ?_) | refine wo_loadC (h := ?_) | refine wo_ldV (h := ?_) | refine wo_ldF (h := ?_)) | ((with_reducible first | apply o_lss | apply o_eql); exact rfl; exact rfl; exact rfl) | ((with_reducible apply o_not); exact rfl; exact rfl) | ((with_reducible apply gdo_store); first | refine wo_store1 (h := ?_) | refine wo_storeA (h := ?_)) | ((with_reducible first | apply c_seq | apply c_block | apply c_region | apply c_nil | apply c_ret | apply c_exit | apply c_skip)) | ((with_reducible apply c_cond_t); exact rfl; exact tT_) | ((with_reducible first | apply e_then | apply e_then_ret | apply e_then_exit | apply e_in | apply e_in_ret | apply e_in_same)))
          (first | ((with_reducible apply r_M1); exact aT_; exact uP_; apply res1 Try.results33; exact rV_; intro w' hw) | ((with_reducible apply r_M0); apply res1 Try.results33; exact rV_; intro w' hw))
          exact ⟨rfl, hw.below (by simp)⟩
      · as_aux_lemma =>
          repeat' (first | ((with_reducible apply c_cond_t); exact rfl; exact decide_eq_true (by omega)) | ((with_reducible apply c_cond_f); exact rfl; exact decide_eq_false (by omega)) | ((with_reducible apply o_quoE (v := q)); exact rfl; exact rfl; exact hq; omega; exact rfl) | ((with_reducible apply o_yield); exact rfl; exact eV_; assumption; assumption; exact aT_; exact rfl; exact rfl; (repeat (first | exact RPar.nil | apply RPar.cons)); intro aI haI) | ((with_reducible apply e_begin); assumption; exact aT_; exact uP_) | (first | ((with_reducible apply e_round); assumption; exact rfl; assumption; exact aT_; exact uP_) | ((with_reducible apply e_round_ret); assumption; exact rfl; assumption; exact aT_; exact uP_) | ((with_reducible apply e_round_exit); assumption; exact rfl; assumption; exact aT_; exact uP_)) | (first | apply r_iter Try.results62 | apply r_iter' Try.results62) | (first | ((with_reducible apply e_range); assumption; assumption; exact aT_; (intro hst; cases hst); exact uP_) | ((with_reducible apply e_rangeJ); assumption; assumption; exact aT_; (intro hst; cases hst); exact uP_)) | ((with_reducible first | apply o_move | apply o_assign | apply o_faddr0 | apply o_not_d); exact rfl; exact rfl) | ((with_reducible apply gdo_load); first | refine wo_load (h := ?_) | refine wo_loadAll (h := ?_) | refine wo_loadC (h := ?_) | refine wo_ldV (h := ?_) | refine wo_ldF (h := ?_)) | ((with_reducible first | apply o_lss | apply o_eql); exact rfl; exact rfl; exact rfl) | ((with_reducible apply o_not); exact rfl; exact rfl) | ((with_reducible apply o_add); exact rfl; exact rfl; exact rfl; (constructor <;> omega)) | ((with_reducible first | apply c_seq | apply c_block | apply c_region | apply c_nil | apply c_ret | apply c_exit | apply c_skip)) | ((with_reducible apply c_cond_f); exact rfl; exact fF_) | ((with_reducible first | apply e_then | apply e_then_ret | apply e_then_exit | apply e_in | apply e_in_ret | apply e_in_same)))
          refine l_again (m + 1) ⟨by omega, by omega⟩ (by omega) ?_ ?_
          · (try dsimp only); rw [← es]; exact fS_
          · exact hS_
    · obtain rfl : m = u := by omega
      as_aux_lemma =>
        repeat' (first | ((with_reducible apply c_cond_f); exact rfl; exact decide_eq_false (by omega)) | ((with_reducible first | apply o_move | apply o_assign | apply o_faddr0 | apply o_not_d); exact rfl; exact rfl) | ((with_reducible apply gdo_load); first | refine wo_load (h := ?_) | refine wo_loadAll (h := ?_) | refine wo_loadC (h := ?_) | refine wo_ldV (h := ?_) | refine wo_ldF (h := ?_)) | ((with_reducible first | apply o_lss | apply o_eql); exact rfl; exact rfl; exact rfl) | ((with_reducible apply o_add); exact rfl; exact rfl; exact rfl; (constructor <;> omega)) | ((with_reducible first | apply c_seq | apply c_block | apply c_region | apply c_nil | apply c_ret | apply c_exit | apply c_skip)) | ((with_reducible first | apply e_then | apply e_then_ret | apply e_then_exit | apply e_in | apply e_in_ret | apply e_in_same)))
        refine l_again (i + 1) ⟨by omega, by rw [hst]; exact hmq2, by rw [hst']; exact hnext hmq2⟩ (by omega) ?_ ?_
        · (try dsimp only); rw [hst]; exact fS_
        · exact hS_
  obtain rfl : i = r.slices.length := by omega
  rw [List.drop_length, Plt.minuteF] at hmq
  rw [hmq]
  as_aux_lemma =>
    repeat' (first | ((with_reducible apply c_cond_f); exact rfl; exact decide_eq_false (by omega)) | ((with_reducible apply o_yield); exact rfl; exact eV_; assumption; assumption; exact aT_; exact rfl; exact rfl; (repeat (first | exact RPar.nil | apply RPar.cons)); intro aI haI) | ((with_reducible apply e_begin); assumption; exact aT_; exact uP_) | (first | ((with_reducible apply e_round); assumption; exact rfl; assumption; exact aT_; exact uP_) | ((with_reducible apply e_round_ret); assumption; exact rfl; assumption; exact aT_; exact uP_) | ((with_reducible apply e_round_exit); assumption; exact rfl; assumption; exact aT_; exact uP_)) | (first | apply r_iter Try.results62 | apply r_iter' Try.results62) | (first | ((with_reducible apply e_range); assumption; assumption; exact aT_; (intro hst; cases hst); exact uP_) | ((with_reducible apply e_rangeJ); assumption; assumption; exact aT_; (intro hst; cases hst); exact uP_)) | ((with_reducible first | apply o_lss | apply o_eql); exact rfl; exact rfl; exact rfl) | ((with_reducible apply gdo_store); first | refine wo_store1 (h := ?_) | refine wo_storeA (h := ?_)) | ((with_reducible first | apply c_seq | apply c_block | apply c_region | apply c_nil | apply c_ret | apply c_exit | apply c_skip)) | ((with_reducible first | apply e_then | apply e_then_ret | apply e_then_exit | apply e_in | apply e_in_ret | apply e_in_same)))
    (first | ((with_reducible apply r_M1); exact aT_; exact uP_; apply res1 Try.results33; exact rV_; intro w' hw) | ((with_reducible apply r_M0); apply res1 Try.results33; exact rV_; intro w' hw))
    exact ⟨rfl, hw.below (by simp)⟩
end Go.Proofs.Ytkhaemjoekfhiaa
namespace Go.Sx.Plt
def ratesF (ms : List Mach) : List (Int × Int) := ms.map fun m => (m.id, m.rate)
def sortedAt (p : Plant) (x t : Int) (n : Nat) : Bool := match (playF p)[n]?, p.passes[n]? with
  | some r, some y => sortedF r x (machF p.ms y.mach).rate t
  | _, _ => false
/-- The last of the first n runs that has sorted an item. -/
def lastF (p : Plant) (x t : Int) : Nat → Option Nat
  | 0 => none
  | n + 1 => if sortedAt p x t n = true then some n else lastF p x t n
def whereF (p : Plant) (x t : Int) : (Int × Int × Int) × Int := match idxF x (p.items.map Item.id) with
  | none => ((0, 0, 0), 6)
  | some k =>
    if t < 0 then ((0, 0, 0), 2) else
    if 1051898399 < t then ((0, 0, 0), 3) else
    match lastF p x t p.passes.length with
    | some n => (match (playF p)[n]? with | some r => placeF r x | none => (0, 0, 0), 0)
    | none => ((1, 0, match p.items[k]? with | some y => y.batch | none => 0), 0)
theorem ratesF_keys (ms : List Mach) : (ratesF ms).map Prod.fst = ms.map Mach.id := by simp [ratesF, Function.comp_def]
theorem ratesF_at {ms : List Mach} {j : Nat} {m : Mach} (hn : (ms.map Mach.id).Nodup) (h : ms[j]? = some m) : asF m.id (ratesF ms) = some m.rate :=
  asF_at (j := j) (by rw [ratesF_keys]; exact hn) (by rw [ratesF, List.getElem?_map, h]; rfl)
theorem runF_slices {h : Hall} {m : Mach} {stops : List (Int × Int)} {y : Pass} (hal : ∀ ready items, takeSrc h (max y.rel ((asF m.id h.free).getD 0)) [] y.src = some (ready, items) → items ≠ [] → allowedF [⟨y.id, ready, 1051898399, needOf items.length m.rate⟩] m.shifts = (0, 0)) :
    (runF h m stops y).1.slices.length ≤ 200 ∧ ∀ s ∈ (runF h m stops y).1.slices, 0 ≤ s.1 ∧ s.1 ≤ s.2 ∧ s.2 ≤ 1051898399 := by
  have hmis : (missed y).slices.length ≤ 200 ∧ ∀ s ∈ (missed y).slices, 0 ≤ s.1 ∧ s.1 ≤ s.2 ∧ s.2 ≤ 1051898399 := ⟨by simp [missed], fun s hs => by simp [missed] at hs⟩
  cases ht : takeSrc h (max y.rel ((asF m.id h.free).getD 0)) [] y.src with
  | none => unfold runF; rw [ht]; exact hmis
  | some q =>
    obtain ⟨ready, items⟩ := q
    by_cases hne : items = []
    · subst hne
      unfold runF
      rw [ht]
      simp only [ne_eq, not_true_eq_false, false_and, if_false, if_true]
      split
      · exact hmis
      · exact ⟨by simp, fun s hs => by simp at hs⟩
    · have h1 := allowed_ok (hal ready items ht hne)
      have h2 := h1.1
      unfold Job.ok at h2
      dsimp only at h2
      unfold runF
      rw [ht]
      simp only [hne, if_false, ne_eq, not_false_eq_true, true_and]
      split
      · exact hmis
      · split
        · exact hmis
        · refine ⟨Nat.le_trans (Go.Proofs.Ytkhaemjoekfhiaa.slices_len _ _) h1.2.1, ?_⟩
          exact Go.Proofs.Ytkhaemjoekfhiaa.slices_bd (by omega) (by omega) h1.2.2
end Go.Sx.Plt
namespace Go.Proofs.Ytkhaemjoekfhiaa
open Go Go.Sx Go.RowKit
attribute [local irreducible] WL WC WQ WR WB WF QB St Exit.then Exit.inBlock Exit.noGoto bodyPost roundPost beginK YR RG BM Calls B AgainD MeetD
/-! ## Where -/
theorem w1_calls {i s ba x : Int} {b4 : Nat} (w : World) (h : w.heap[b4]? = some (Ce [.int .i64 x] 3)) : Calls Try.prog 31 #[.agg #[.int .i64 i, .int .i64 s, .int .i64 ba], ptr b4] w fun e w' => e = .returned (.bool (decide (i = x))) ∧ Below w.heap.size w w' := by
  refine f_enter2 Try.func31 rfl Try.ntmps31 rfl (Rep.start w) ?_
  repeat' (first | ((with_reducible first | apply o_assign | apply o_faddr0); exact rfl; exact rfl) | ((with_reducible apply gdo_load); first | refine wo_load (h := ?_) | refine wo_loadAll (h := ?_) | refine wo_loadC (h := ?_) | refine wo_ldV (h := ?_) | refine wo_ldF (h := ?_)) | ((with_reducible apply o_eql); exact rfl; exact rfl; exact rfl) | ((with_reducible apply o_box); exact rfl; exact rfl; exact rfl; intro _) | ((with_reducible first | apply c_seq | apply c_block | apply c_region | apply c_nil | apply c_ret | apply c_exit | apply c_skip)) | ((with_reducible first | apply e_then | apply e_then_ret | apply e_then_exit | apply e_in | apply e_in_ret | apply e_in_same)))
  apply r_body; apply res1 Try.results31; exact rV_; intro w' hw
  exact ⟨rfl, hw.below (by simp)⟩
theorem indexFunc_calls {v : Value} {l : List Plt.Item} {x : Int} {b4 : Nat} (w : World) (h : SV w 3 encItem v l) (hb : w.heap[b4]? = some (Ce [.int .i64 x] 3)) : Calls Try.prog 30 #[v, .func (.func 31) #[] #[ptr b4]] w fun e w' => e = .returned (.int .i64 (Plt.idxI x (l.map Plt.Item.id))) ∧ Below w.heap.size w w' := by
  obtain ⟨a0, c0, rfl, hc, hop⟩ := h.open
  refine f_enter2 Try.func30 rfl Try.ntmps30 rfl (Rep.start w) ?_
  repeat' (first | ((with_reducible first | apply o_move | apply o_assign); exact rfl; exact rfl) | ((with_reducible apply o_len); infer_instance; exact rfl; exact rfl) | ((with_reducible first | apply c_seq | apply c_block | apply c_region | apply c_nil | apply c_ret | apply c_exit | apply c_skip)) | ((with_reducible first | apply e_then | apply e_then_ret | apply e_then_exit | apply e_in | apply e_in_ret | apply e_in_same)))
  apply c_loop (σ := Nat) (Fs := fun i => [(8, .int .i64 i), (7, .int .i64 l.length), (0, .slice a0 l.length c0), (1, .func (.func 31) #[] #[ptr b4])]) (Ls := fun i => []) (I := fun i => i ≤ l.length ∧ ∀ j, j < i → (l.map Plt.Item.id)[j]? ≠ some x) (μ := fun i => l.length - i) (s0 := 0)
  · exact ⟨Nat.zero_le _, fun j hj => by omega⟩
  · exact fS_
  · exact hS_
  rintro i ⟨hi, hno⟩
  by_cases hlt : i < l.length
  · obtain ⟨⟨id, st, ba⟩, hx⟩ : ∃ y, l[i]? = some y := ⟨_, List.getElem?_eq_getElem hlt⟩
    obtain ⟨b, off, cc, e, fz, rfl, hk, hp⟩ := hop (by omega)
    have g1 : ∀ j u, ([.int .i64 id, .int .i64 st, .int .i64 ba] : List Value)[j]? = some u → cc[off + i * 3 + j]? = some u := hp.get hx
    have hxi : (l.map Plt.Item.id)[i]? = some id := by rw [List.getElem?_map, hx]; rfl
    have hcl : ∀ (w' : World) (L : List Ent), Rep w w' L → AO L → Calls Try.prog 31 #[.agg #[.int .i64 id, .int .i64 st, .int .i64 ba], ptr b4] w' fun e w'' => e = .returned (.bool (decide (id = x))) ∧ Below w'.heap.size w' w'' := fun w' L hw hL => w1_calls w' (Kn.oldA hb hL w' hw)
    by_cases hxy : id = x
    · have e1 : Plt.idxI x (l.map Plt.Item.id) = (i : Int) := by unfold Plt.idxI; rw [Plt.idxF_at hno (hxy ▸ hxi)]
      rw [e1]
      as_aux_lemma =>
        repeat' (first | ((with_reducible apply c_cond_t); exact rfl; exact decide_eq_true (by omega)) | ((with_reducible apply o_call_pureV (f := 31)); exact rfl; exact rfl; exact eV_; (intro w' hw; exact hcl w' _ hw (by exact aO_))) | ((with_reducible first | apply o_move | apply o_assign); exact rfl; exact rfl) | ((with_reducible apply gdo_load); first | refine wo_load (h := ?_) | refine wo_loadAll (h := ?_) | refine wo_loadC (h := ?_) | refine wo_ldV (h := ?_) | refine wo_ldF (h := ?_)) | ((with_reducible apply o_lss); exact rfl; exact rfl; exact rfl) | ((with_reducible apply o_idx); infer_instance; infer_instance; exact rfl; exact rfl; (first | exact rfl | omega); exact rfl; (first | assumption | omega | decide)) | ((with_reducible first | apply c_seq | apply c_block | apply c_region | apply c_nil | apply c_ret | apply c_exit | apply c_skip)) | ((with_reducible first | apply e_then | apply e_then_ret | apply e_then_exit | apply e_in | apply e_in_ret | apply e_in_same)))
        apply r_body; apply res1 Try.results30; exact rV_; intro w' hw
        exact ⟨rfl, hw.below (by simp)⟩
    · have hno2 : ∀ j, j < i + 1 → (l.map Plt.Item.id)[j]? ≠ some x := fun j hj => by
        by_cases hji : j = i
        · subst hji; rw [hxi]; intro e; cases e; exact hxy rfl
        · exact hno j (by omega)
      as_aux_lemma =>
        repeat' (first | ((with_reducible apply c_cond_t); exact rfl; exact decide_eq_true (by omega)) | ((with_reducible apply c_cond_f); exact rfl; exact decide_eq_false (by omega)) | ((with_reducible apply o_call_pureV (f := 31)); exact rfl; exact rfl; exact eV_; (intro w' hw; exact hcl w' _ hw (by exact aO_))) | ((with_reducible first | apply o_move | apply o_assign); exact rfl; exact rfl) | ((with_reducible apply gdo_load); first | refine wo_load (h := ?_) | refine wo_loadAll (h := ?_) | refine wo_loadC (h := ?_) | refine wo_ldV (h := ?_) | refine wo_ldF (h := ?_)) | ((with_reducible apply o_lss); exact rfl; exact rfl; exact rfl) | ((with_reducible apply o_add); exact rfl; exact rfl; exact rfl; (constructor <;> omega)) | ((with_reducible apply o_idx); infer_instance; infer_instance; exact rfl; exact rfl; (first | exact rfl | omega); exact rfl; (first | assumption | omega | decide)) | ((with_reducible first | apply c_seq | apply c_block | apply c_region | apply c_nil | apply c_ret | apply c_exit | apply c_skip)) | ((with_reducible first | apply e_then | apply e_then_ret | apply e_then_exit | apply e_in | apply e_in_ret | apply e_in_same)))
        refine l_again (i + 1) ⟨by omega, hno2⟩ (by omega) ?_ ?_
        · exact fS_
        · exact hS_
  obtain rfl : i = l.length := by omega
  have e1 : Plt.idxI x (l.map Plt.Item.id) = -1 := by
    unfold Plt.idxI
    rw [Plt.idxF_none.2 (fun hm => by obtain ⟨j, hj⟩ := List.getElem?_of_mem hm; exact hno j (by have := (List.getElem?_eq_some_iff.1 hj).1; simpa using this) hj)]
  rw [e1]
  repeat' (first | ((with_reducible apply c_cond_f); exact rfl; exact decide_eq_false (by omega)) | ((with_reducible first | apply o_move | apply o_assign); exact rfl; exact rfl) | ((with_reducible apply o_lss); exact rfl; exact rfl; exact rfl) | ((with_reducible first | apply c_seq | apply c_block | apply c_region | apply c_nil | apply c_ret | apply c_exit | apply c_skip)) | ((with_reducible first | apply e_then | apply e_then_ret | apply e_then_exit | apply e_in | apply e_in_ret | apply e_in_same)))
  apply r_body; apply res1 Try.results30; exact rV_; intro w' hw
  exact ⟨rfl, hw.below (by simp)⟩
theorem indexFunc_is {v : Value} {l : List Plt.Item} {x z : Int} {b4 : Nat} (hz : Plt.idxI x (l.map Plt.Item.id) = z) (w : World) (h : SV w 3 encItem v l) (hb : w.heap[b4]? = some (Ce [.int .i64 x] 3)) : Calls Try.prog 30 #[v, .func (.func 31) #[] #[ptr b4]] w fun e w' => e = .returned (.int .i64 z) ∧ Below w.heap.size w w' := by
  subst hz; exact indexFunc_calls w h hb
theorem backward_calls (a : Option Addr) (n c : Nat) (w : World) : Calls Try.prog 32 #[.slice a n c] w fun e w' => ∃ u N, e = .returned u ∧ (∃ b, u = .func (.func 49) #[] #[ptr b] ∧ N = [⟨b, Ce [.slice a n c] 31, true⟩]) ∧ Rep w w' N ∧ ∀ x ∈ N, x.own = true := by
  refine f_enter1 Try.func32 rfl Try.ntmps32 rfl (Rep.start w) ?_
  repeat' (first | ((with_reducible apply o_assign); exact rfl; exact rfl) | ((with_reducible apply o_box); exact rfl; exact rfl; exact rfl; intro _) | ((with_reducible apply gdo_makeFunc); refine wo_func (h := ?_)) | ((with_reducible first | apply c_seq | apply c_block | apply c_region | apply c_nil | apply c_ret | apply c_exit | apply c_skip)) | ((with_reducible first | apply e_then | apply e_then_ret | apply e_then_exit | apply e_in | apply e_in_ret | apply e_in_same)))
  apply r_body; apply res1 Try.results32; exact rV_; intro w' hw
  exact ⟨_, _, rfl, ⟨_, rfl, rfl⟩, hw.sub (by exact hS_), by simp⟩
end Go.Proofs.Ytkhaemjoekfhiaa
namespace Go.Sx.Plt
open Go.Proofs.Ytkhaemjoekfhiaa (mslF_keys psF tkF psF_snoc tkF_snoc nodup_snoc slices_bd slices_len)
/-! ## what is valid -/
theorem machsBad_none : ∀ {l : List Mach} {met : List Int} {i : Nat}, machsBad met i l = none → (l.map Mach.id).Nodup ∧ (∀ m ∈ l, m.id ∉ met ∧ rightM m)
  | [], _, _, _ => by simp
  | m :: r, met, i, h => by
    rw [machsBad] at h
    by_cases hm : m.id ∉ met ∧ rightM m
    · rw [if_pos hm] at h
      obtain ⟨h1, h2⟩ := machsBad_none h
      refine ⟨?_, fun x hx => ?_⟩
      · rw [List.map_cons, List.nodup_cons]
        refine ⟨fun hx => ?_, h1⟩
        obtain ⟨x, hx, e⟩ := List.mem_map.1 hx
        exact (h2 x hx).1 (by rw [e]; simp)
      · rcases List.mem_cons.1 hx with rfl | hx
        · exact hm
        · exact ⟨fun hh => (h2 x hx).1 (List.mem_append.2 (.inl hh)), (h2 x hx).2⟩
    · rw [if_neg hm] at h; cases h
theorem itemsBad_none : ∀ {l : List Item} {met : List Int} {i : Nat}, itemsBad met i l = none → (l.map Item.id).Nodup ∧ (∀ m ∈ l, m.id ∉ met ∧ m.ok)
  | [], _, _, _ => by simp
  | m :: r, met, i, h => by
    rw [itemsBad] at h
    by_cases hm : m.ok ∧ m.id ∉ met
    · rw [if_pos hm] at h
      obtain ⟨h1, h2⟩ := itemsBad_none h
      refine ⟨?_, fun x hx => ?_⟩
      · rw [List.map_cons, List.nodup_cons]
        refine ⟨fun hx => ?_, h1⟩
        obtain ⟨x, hx, e⟩ := List.mem_map.1 hx
        exact (h2 x hx).1 (by rw [e]; simp)
      · rcases List.mem_cons.1 hx with rfl | hx
        · exact ⟨hm.2, hm.1⟩
        · exact ⟨fun hh => (h2 x hx).1 (List.mem_append.2 (.inl hh)), (h2 x hx).2⟩
    · rw [if_neg hm] at h; cases h
theorem passesBad_none {msl : List (Int × Int)} : ∀ {l : List Pass} {ps tk : List (Int × Int)} {i : Nat}, passesBad msl ps tk i l = none → ∀ (j : Nat) (y : Pass), l[j]? = some y → passOk msl (ps ++ psF msl (l.take j)) (tk ++ tkF (l.take j)) y
  | [], _, _, _, _, _, _, h => by simp at h
  | a :: r, ps, tk, i, h, j, y, hy => by
    rw [passesBad] at h
    by_cases ha : passOk msl ps tk a
    · rw [if_pos ha] at h
      cases j with
      | zero => simp at hy; subst hy; simpa [psF, tkF] using ha
      | succ j =>
        have := passesBad_none h j y (by simpa using hy)
        simpa [psF, tkF, List.append_assoc] using this
    · rw [if_neg ha] at h; cases h
structure Valid (p : Plant) : Prop where
  small : p.ms.length ≤ 20 ∧ p.items.length ≤ 2000 ∧ p.passes.length ≤ 60
  mnd : (p.ms.map Mach.id).Nodup
  right : ∀ m ∈ p.ms, rightM m
  ind : (p.items.map Item.id).Nodup
  iok : ∀ x ∈ p.items, x.ok
  pok : ∀ (j : Nat) (y : Pass), p.passes[j]? = some y → passOk (mslF p.ms) (psF (mslF p.ms) (p.passes.take j)) (tkF (p.passes.take j)) y
theorem valid_of {p : Plant} (h : validF p = (0, 0)) : Valid p := by
  unfold validF at h
  by_cases hb : 20 < p.ms.length ∨ 2000 < p.items.length ∨ 60 < p.passes.length
  · rw [if_pos hb] at h; cases h
  rw [if_neg hb] at h
  cases h1 : machsBad [] 0 p.ms with
  | some i => rw [h1] at h; cases h
  | none =>
    rw [h1] at h
    dsimp only at h
    cases h2 : itemsBad [] 0 p.items with
    | some i => rw [h2] at h; cases h
    | none =>
      rw [h2] at h
      dsimp only at h
      cases h3 : passesBad (mslF p.ms) [] [] 0 p.passes with
      | some i => rw [h3] at h; cases h
      | none =>
        obtain ⟨a1, a2⟩ := machsBad_none h1
        obtain ⟨b1, b2⟩ := itemsBad_none h2
        exact ⟨by omega, a1, fun m hm => (a2 m hm).2, b1, fun x hx => (b2 x hx).2, fun j y hy => by simpa using passesBad_none h3 j y hy⟩
theorem machF_of {ms : List Mach} {j : Nat} {m : Mach} (hn : (ms.map Mach.id).Nodup) (h : ms[j]? = some m) : machF ms m.id = m := by
  unfold machF
  have : ms.find? (fun x => decide (x.id = m.id)) = some m := by
    induction ms generalizing j with
    | nil => simp at h
    | cons a r ih =>
      rw [List.map_cons, List.nodup_cons] at hn
      cases j with
      | zero => simp at h; subst h; simp
      | succ j =>
        have h' : r[j]? = some m := by simpa using h
        have hne : a.id ≠ m.id := fun e => hn.1 (List.mem_map.2 ⟨m, List.mem_of_getElem? h', e.symm⟩)
        rw [List.find?_cons, decide_eq_false hne]
        exact ih hn.2 h'
  rw [this]; rfl
theorem Valid.mach {p : Plant} (h : Valid p) {j : Nat} {y : Pass} (hy : p.passes[j]? = some y) : ∃ (k : Nat) (m : Mach), p.ms[k]? = some m ∧ m.id = y.mach ∧ machF p.ms y.mach = m ∧ rightM m ∧ asF y.mach (mslF p.ms) = some (m.caps.length : Int) := by
  have h1 := (h.pok j y hy).1.1.2
  obtain ⟨n, hn⟩ := Option.isSome_iff_exists.1 h1
  obtain ⟨k, hk⟩ := asF_some hn
  rw [mslF, List.getElem?_map] at hk
  cases hm : p.ms[k]? with
  | none => rw [hm] at hk; cases hk
  | some m =>
    rw [hm] at hk
    simp only [Option.map_some, Option.some.injEq, Prod.mk.injEq] at hk
    refine ⟨k, m, hm, hk.1, by rw [← hk.1]; exact machF_of h.mnd hm, h.right m (List.mem_of_getElem? hm), by rw [hn, hk.2]⟩
/-! ## what is not taken yet -/
/-- How often an item is in the rows that are not taken. -/
def wF (x : Int) (tk : List (Int × Int)) : List ((Int × Int) × List Int) → Nat
  | [] => 0
  | q :: r => (if q.1 ∈ tk then 0 else q.2.count x) + wF x tk r
theorem wF_more {x : Int} {tk : List (Int × Int)} {a : Int × Int} : ∀ {rows : List ((Int × Int) × List Int)}, a ∉ rows.map Prod.fst → wF x (tk ++ [a]) rows = wF x tk rows
  | [], _ => rfl
  | q :: r, h => by
    rw [List.map_cons, List.mem_cons, not_or] at h
    rw [wF, wF, wF_more h.2]
    congr 1
    have : (q.1 ∈ tk ++ [a]) ↔ q.1 ∈ tk := by simp [show ¬ q.1 = a from fun e => h.1 e.symm]
    by_cases hq : q.1 ∈ tk
    · rw [if_pos hq, if_pos (this.2 hq)]
    · rw [if_neg hq, if_neg (fun hh => hq (this.1 hh))]
theorem wF_take {x : Int} {tk : List (Int × Int)} {a : Int × Int} (ha : a ∉ tk) : ∀ {rows : List ((Int × Int) × List Int)}, (rows.map Prod.fst).Nodup → wF x tk rows = ((asF a rows).getD []).count x + wF x (tk ++ [a]) rows
  | [], _ => by simp [wF, asF]
  | q :: r, h => by
    rw [List.map_cons, List.nodup_cons] at h
    rw [wF, wF, asF]
    by_cases e : q.1 = a
    · subst e
      rw [if_neg ha, if_pos rfl, if_pos (by simp), wF_more h.1]
      simp
    · have ih := wF_take (x := x) ha h.2
      rw [if_neg e, ih]
      have : (q.1 ∈ tk ++ [a]) ↔ q.1 ∈ tk := by simp [e]
      by_cases hq : q.1 ∈ tk
      · rw [if_pos hq, if_pos (this.2 hq)]; omega
      · rw [if_neg hq, if_neg (fun hh => hq (this.1 hh))]; omega
theorem wF_takes {x : Int} {rows : List ((Int × Int) × List Int)} (hn : (rows.map Prod.fst).Nodup) : ∀ {S tk : List (Int × Int)}, S.Nodup → (∀ s ∈ S, s ∉ tk) → wF x tk rows = (S.flatMap fun s => (asF s rows).getD []).count x + wF x (tk ++ S) rows
  | [], tk, _, _ => by simp
  | a :: S, tk, hS, hd => by
    rw [List.nodup_cons] at hS
    have h1 := wF_take (x := x) (hd a List.mem_cons_self) hn
    have h2 := wF_takes (x := x) hn (S := S) (tk := tk ++ [a]) hS.2 (fun s hs hh => by
      rcases List.mem_append.1 hh with hh | hh
      · exact hd s (List.mem_cons_of_mem _ hs) hh
      · simp at hh; subst hh; exact hS.1 hs)
    rw [List.flatMap_cons, List.count_append, h1, h2, List.append_assoc, List.singleton_append]
    omega
theorem wF_put {x : Int} {tk : List (Int × Int)} {a : Int × Int} {l : List Int} (ha : a ∉ tk) : ∀ {rows : List ((Int × Int) × List Int)}, asF a rows = none → wF x tk (putF a l rows) = wF x tk rows + l.count x := by
  intro rows h
  rw [putF_new h]
  have : ∀ r : List ((Int × Int) × List Int), wF x tk (r ++ [(a, l)]) = wF x tk r + l.count x := by
    intro r
    induction r with
    | nil => simp [wF, ha]
    | cons q r ih => rw [List.cons_append, wF, wF, ih]; omega
  exact this rows
theorem wF_rows {x id : Int} {tk : List (Int × Int)} (htk : ∀ s ∈ tk, s.1 ≠ id) : ∀ (l : List (List Int)) (k : Nat) (rows : List ((Int × Int) × List Int)), (∀ n : Int, (k : Int) ≤ n → asF (id, n) rows = none) → wF x tk (putRows id k l rows) = wF x tk rows + l.flatten.count x
  | [], k, rows, _ => by simp [putRows]
  | a :: r, k, rows, h => by
    rw [putRows, wF_rows htk r (k + 1) _ (fun n hn => by
      rw [asF_put, if_neg (fun e => by have := (Prod.mk.inj e).2; omega)]
      exact h n (by omega)), wF_put (fun hh => htk _ hh rfl) (h k (by omega)), List.flatten_cons, List.count_append]
    omega
theorem len_of_count : ∀ {a b : List Int}, (∀ x, a.count x ≤ b.count x) → a.length ≤ b.length
  | [], b, _ => Nat.zero_le _
  | x :: r, b, h => by
    have hx : x ∈ b := by
      have := h x
      rw [List.count_cons_self] at this
      exact List.count_pos_iff.1 (by omega)
    have h2 := len_of_count (a := r) (b := b.erase x) fun z => by
      have := h z
      by_cases e : x = z
      · subst e
        rw [List.count_cons_self] at this
        rw [List.count_erase_self]; omega
      · rw [List.count_cons_of_ne e] at this
        rw [List.count_erase_of_ne (fun hh => e hh.symm)]
        exact this
    rw [List.length_erase_of_mem hx] at h2
    have := List.length_pos_of_mem hx
    rw [List.length_cons]; omega
end Go.Sx.Plt
namespace Go.Sx.Plt
open Go.Proofs.Ytkhaemjoekfhiaa (mslF_keys psF tkF psF_snoc tkF_snoc nodup_snoc slices_bd slices_len)
theorem srcs_spec {ps : List (Int × Int)} : ∀ {l tk : List (Int × Int)}, srcsOk ps tk l → l.Nodup ∧ ∀ s ∈ l, s ∉ tk ∧ srcOk ps s
  | [], _, _ => by simp
  | a :: r, tk, h => by
    obtain ⟨⟨h1, h2⟩, h3⟩ := h
    obtain ⟨h4, h5⟩ := srcs_spec h3
    refine ⟨List.nodup_cons.2 ⟨fun ha => (h5 a ha).1 (by simp), h4⟩, fun s hs => ?_⟩
    rcases List.mem_cons.1 hs with rfl | hs
    · exact ⟨h2, h1⟩
    · exact ⟨fun hh => (h5 s hs).1 (List.mem_append.2 (.inl hh)), (h5 s hs).2⟩
/-- The ID of one of the first passes. -/
def Early (p : Plant) (i : Nat) (id : Int) : Prop := ∃ (j : Nat) (y : Pass), j < i ∧ p.passes[j]? = some y ∧ y.id = id
theorem Early.mono {p : Plant} {i : Nat} {id : Int} (h : Early p i id) : Early p (i + 1) id := by
  obtain ⟨j, y, h1, h2, h3⟩ := h
  exact ⟨j, y, by omega, h2, h3⟩
theorem psF_early {p : Plant} {i : Nat} {id n : Int} {msl : List (Int × Int)} (h : asF id (psF msl (p.passes.take i)) = some n) : Early p i id := by
  obtain ⟨j, hj⟩ := asF_some h
  rw [psF, List.getElem?_map] at hj
  cases hy : (p.passes.take i)[j]? with
  | none => rw [hy] at hj; cases hj
  | some y =>
    rw [hy] at hj
    simp only [Option.map_some, Option.some.injEq, Prod.mk.injEq] at hj
    rw [List.getElem?_take] at hy
    split at hy
    · rename_i hji
      exact ⟨j, y, hji, hy, hj.1⟩
    · cases hy
theorem src_early {p : Plant} {i : Nat} {s : Int × Int} {msl : List (Int × Int)} (h : srcOk (psF msl (p.passes.take i)) s) : s.1 = 0 ∨ Early p i s.1 := by
  unfold srcOk at h
  by_cases h0 : s.1 = 0
  · exact .inl h0
  · rw [if_neg h0] at h
    cases ho : asF s.1 (psF msl (p.passes.take i)) with
    | none => rw [ho] at h; exact h.elim
    | some n => exact .inr (psF_early ho)
theorem Valid.new {p : Plant} (h : Valid p) {i : Nat} {y : Pass} (hy : p.passes[i]? = some y) : ¬ Early p i y.id := by
  rintro ⟨j, z, h1, h2, h3⟩
  have h4 := (h.pok i y hy).1.1.1
  have : (z.id, (asF z.mach (mslF p.ms)).getD 0) ∈ psF (mslF p.ms) (p.passes.take i) := List.mem_map.2 ⟨z, List.mem_of_getElem? (by rw [List.getElem?_take, if_pos h1]; exact h2), rfl⟩
  exact asF_none.1 h4 _ this h3
theorem Valid.src {p : Plant} (h : Valid p) {i : Nat} {y : Pass} (hy : p.passes[i]? = some y) : y.src.Nodup ∧ ∀ s ∈ y.src, s ∉ tkF (p.passes.take i) ∧ (s.1 = 0 ∨ Early p i s.1) := by
  obtain ⟨h1, h2⟩ := srcs_spec (h.pok i y hy).2.1
  exact ⟨h1, fun s hs => ⟨(h2 s hs).1, src_early (h2 s hs).2⟩⟩
theorem Valid.taken {p : Plant} (h : Valid p) : ∀ i, ∀ s ∈ tkF (p.passes.take i), s.1 = 0 ∨ Early p i s.1
  | 0, s, hs => by simp [tkF] at hs
  | i + 1, s, hs => by
    cases hy : p.passes[i]? with
    | none =>
      have : p.passes.take (i + 1) = p.passes.take i := by rw [List.take_add_one, hy]; simp
      rw [this] at hs
      exact (h.taken i s hs).imp id Early.mono
    | some y =>
      rw [tkF_snoc hy] at hs
      rcases List.mem_append.1 hs with hs | hs
      · exact (h.taken i s hs).imp id Early.mono
      · exact ((h.src hy).2 s hs).2.imp id Early.mono
theorem takeSrc_spec {h : Hall} : ∀ {l : List (Int × Int)} {r0 ready : Int} {acc items : List Int}, takeSrc h r0 acc l = some (ready, items) →
    items = acc ++ l.flatMap h.row ∧ r0 ≤ ready ∧ ∀ B, r0 ≤ B → (∀ q ∈ h.ends, q.2 ≤ B) → ready ≤ B
  | [], r0, ready, acc, items, hh => by
    simp only [takeSrc, Option.some.injEq, Prod.mk.injEq] at hh
    exact ⟨by simp [hh.2], by omega, fun B h1 _ => by omega⟩
  | (s1, s2) :: l, r0, ready, acc, items, hh => by
    rw [takeSrc] at hh
    by_cases h0 : s1 = 0
    · subst h0
      rw [if_neg (by simp)] at hh
      obtain ⟨h1, h2, h3⟩ := takeSrc_spec hh
      exact ⟨by rw [h1, List.flatMap_cons, List.append_assoc], h2, h3⟩
    · rw [if_pos h0] at hh
      cases he : asF s1 h.ends with
      | none => simp only [he] at hh; cases hh
      | some e =>
        simp only [he] at hh
        obtain ⟨h1, h2, h3⟩ := takeSrc_spec hh
        refine ⟨by rw [h1, List.flatMap_cons, List.append_assoc], by omega, fun B hB hq => h3 B ?_ hq⟩
        have := hq _ (asF_mem he)
        dsimp only at this
        omega
theorem runF_cases (h : Hall) (m : Mach) (stops : List (Int × Int)) (y : Pass) : runF h m stops y = (missed y, h) ∨ ∃ ready items start fin sl res, takeSrc h (max y.rel ((asF m.id h.free).getD 0)) [] y.src = some (ready, items) ∧ Srt.runF m.caps m.sweeps (items.map (feedOf stops y)) = (res, 0) ∧
    runF h m stops y = (⟨y.id, start, fin, items, sl, res⟩, ⟨putRows y.id 0 res.stackers h.rows, putF y.id fin h.ends, putF m.id fin h.free⟩) ∧
    ((items = [] ∧ sl = [] ∧ start = ready ∧ fin = ready) ∨ (items ≠ [] ∧ sl = slicesF ready (needOf items.length m.rate) m.shifts ∧ sl ≠ [] ∧ needOf items.length m.rate ≤ spanF sl ∧ start = (sl.headD (0, 0)).1 ∧ fin = (sl.getLastD (0, 0)).2)) := by
  cases ht : takeSrc h (max y.rel ((asF m.id h.free).getD 0)) [] y.src with
  | none => exact .inl (by unfold runF; rw [ht])
  | some q =>
    obtain ⟨ready, items⟩ := q
    obtain ⟨⟨res, k⟩, hres⟩ : ∃ r, Srt.runF m.caps m.sweeps (items.map (feedOf stops y)) = r := ⟨_, rfl⟩
    by_cases hk : k = 0
    · subst hk
      by_cases hne : items = []
      · subst hne
        refine .inr ⟨ready, [], ready, ready, [], res, rfl, hres, ?_, .inl ⟨rfl, rfl, rfl, rfl⟩⟩
        rw [Go.Proofs.Ytkhaemjoekfhiaa.runF_idle ht, show Srt.runF m.caps m.sweeps [] = (res, 0) from hres]
        unfold Go.Proofs.Ytkhaemjoekfhiaa.tailF
        rw [if_neg (by simp)]
      · by_cases hl : slicesF ready (needOf items.length m.rate) m.shifts = [] ∨ spanF (slicesF ready (needOf items.length m.rate) m.shifts) < needOf items.length m.rate
        · exact .inl (Go.Proofs.Ytkhaemjoekfhiaa.runF_late ht hne hl)
        · refine .inr ⟨ready, items, _, _, _, res, rfl, hres, ?_, .inr ⟨hne, rfl, fun hh => hl (.inl hh), by omega, rfl, rfl⟩⟩
          rw [Go.Proofs.Ytkhaemjoekfhiaa.runF_busy ht hne hl, hres]
          unfold Go.Proofs.Ytkhaemjoekfhiaa.tailF
          rw [if_neg (by simp)]
    · refine .inl ?_
      by_cases hne : items = []
      · subst hne
        rw [Go.Proofs.Ytkhaemjoekfhiaa.runF_idle ht, show Srt.runF m.caps m.sweeps [] = (res, k) from hres]
        unfold Go.Proofs.Ytkhaemjoekfhiaa.tailF
        rw [if_pos hk]
      · by_cases hl : slicesF ready (needOf items.length m.rate) m.shifts = [] ∨ spanF (slicesF ready (needOf items.length m.rate) m.shifts) < needOf items.length m.rate
        · exact Go.Proofs.Ytkhaemjoekfhiaa.runF_late ht hne hl
        · rw [Go.Proofs.Ytkhaemjoekfhiaa.runF_busy ht hne hl, hres]
          unfold Go.Proofs.Ytkhaemjoekfhiaa.tailF
          rw [if_pos hk]
theorem last_bd {l : List (Int × Int)} (h : ∀ s ∈ l, 0 ≤ s.1 ∧ s.1 ≤ s.2 ∧ s.2 ≤ 1051898399) (hne : l ≠ []) : 0 ≤ (l.getLastD (0, 0)).2 ∧ (l.getLastD (0, 0)).2 ≤ 1051898399 := by
  have hm : l.getLastD (0, 0) ∈ l := by
    rw [List.getLastD_eq_getLast?, List.getLast?_eq_getElem?, List.getElem?_eq_getElem (by have := List.length_pos_iff.2 hne; omega)]
    exact List.getElem_mem _
  have := h _ hm
  omega
theorem srun_feeds {caps : List Int} {s : Int} {l : List Srt.Fd} {res : Srt.M} (h : Srt.runF caps s l = (res, 0)) : res = Srt.playF caps s l ∧ (∀ f ∈ l, f.st < caps.length) ∧ (l.map Srt.Fd.item).Nodup := by
  unfold Srt.runF at h
  split at h
  · cases h
  · split at h
    · cases h
    · split at h
      · rename_i h1
        simp only [Prod.mk.injEq] at h
        exact absurd h.2 h1
      · rename_i h1
        simp only [Prod.mk.injEq] at h
        refine ⟨h.1.symm, ?_⟩
        have h1 : Srt.fedF caps.length l = 0 := Classical.not_not.1 h1
        unfold Srt.fedF at h1
        split at h1
        · cases h1
        · split at h1
          · cases h1
          · rename_i hb
            have hb2 := Srt.badF_false.1 (by simpa using hb)
            exact ⟨fun f hf => (hb2.1 f hf).2.2, hb2.2.1⟩
theorem feed_items (stops : List (Int × Int)) (y : Pass) (items : List Int) : (items.map (feedOf stops y)).map Srt.Fd.item = items := by
  rw [List.map_map]
  have : (Srt.Fd.item ∘ feedOf stops y) = id := by
    funext x
    simp only [Function.comp, feedOf]
    split <;> rfl
  rw [this, List.map_id]
theorem stackers_count {caps : List Int} {s : Int} {stops : List (Int × Int)} {y : Pass} {items : List Int} {res : Srt.M} (h : Srt.runF caps s (items.map (feedOf stops y)) = (res, 0)) (x : Int) : res.stackers.flatten.count x + (res.over.count x + res.rej.count x) = items.count x := by
  obtain ⟨h1, h2, _⟩ := srun_feeds h
  have := (Srt.playF_all (s := s) h2).count_eq x
  rw [feed_items, ← h1] at this
  rw [← this, Srt.allOf, List.count_append, List.count_append]
structure Inv (p : Plant) (i : Nat) (h : Hall) : Prop where
  en : (h.ends.map Prod.fst).Nodup
  eb : ∀ q ∈ h.ends, Early p i q.1 ∧ 0 ≤ q.2 ∧ q.2 ≤ 1051898399
  fn : (h.free.map Prod.fst).Nodup
  fb : ∀ q ∈ h.free, 0 ≤ q.2 ∧ q.2 ≤ 1051898399
  rn : (h.rows.map Prod.fst).Nodup
  rk : ∀ q ∈ h.rows, q.1.1 = 0 ∨ Early p i q.1.1
  wt : ∀ x, wF x (tkF (p.passes.take i)) h.rows ≤ (p.items.map Item.id).count x
theorem Inv.zero (p : Plant) : Inv p 0 (hallAt p 0) := by
  have key : ∀ l : List Item, ((batchRows [] l).map Prod.fst).Nodup ∧ (∀ q ∈ batchRows [] l, q.1.1 = 0) ∧ ∀ x, wF x [] (batchRows [] l) = (l.map Item.id).count x := by
    intro l
    refine snoc_ind (p := fun l => ((batchRows [] l).map Prod.fst).Nodup ∧ (∀ q ∈ batchRows [] l, q.1.1 = 0) ∧ ∀ x, wF x [] (batchRows [] l) = (l.map Item.id).count x) ⟨by simp [batchRows], by simp [batchRows], by simp [batchRows, wF]⟩ (fun l y ih => ?_) l
    obtain ⟨h1, h2, h3⟩ := ih
    rw [batch_snoc]
    refine ⟨putF_nodup h1, fun q hq => ?_, fun x => ?_⟩
    · have : q.1 ∈ (putF (0, y.batch) ((asF (0, y.batch) (batchRows [] l)).getD [] ++ [y.id]) (batchRows [] l)).map Prod.fst := List.mem_map.2 ⟨q, hq, rfl⟩
      rcases putF_keys.1 this with e | e
      · rw [e]
      · obtain ⟨q', hq', e'⟩ := List.mem_map.1 e
        rw [← e']; exact h2 q' hq'
    · have e1 : wF x [] (putF (0, y.batch) ((asF (0, y.batch) (batchRows [] l)).getD [] ++ [y.id]) (batchRows [] l)) = wF x [] (batchRows [] l) + [y.id].count x := by
        have hp := putF_nodup (k := ((0 : Int), y.batch)) (v := (asF (0, y.batch) (batchRows [] l)).getD [] ++ [y.id]) h1
        have g1 := wF_take (x := x) (tk := []) (a := (0, y.batch)) (by simp) hp
        have g2 := wF_take (x := x) (tk := []) (a := (0, y.batch)) (by simp) h1
        rw [asF_put, if_pos rfl, Option.getD_some, List.count_append] at g1
        have g3 : wF x ([] ++ [((0 : Int), y.batch)]) (putF (0, y.batch) ((asF (0, y.batch) (batchRows [] l)).getD [] ++ [y.id]) (batchRows [] l)) = wF x ([] ++ [((0 : Int), y.batch)]) (batchRows [] l) := by
          generalize (asF (0, y.batch) (batchRows [] l)).getD [] ++ [y.id] = v
          generalize batchRows [] l = m
          induction m with
          | nil => simp [putF, wF]
          | cons q r ih =>
            rw [putF]
            by_cases e : q.1 = (0, y.batch)
            · rw [if_pos e, wF, wF]; simp [e]
            · rw [if_neg e, wF, wF, ih]
        omega
      rw [e1, h3, List.map_append, List.count_append]; rfl
  rw [hallAt_zero]
  obtain ⟨h1, h2, h3⟩ := key p.items
  exact ⟨by simp [hall0], by simp [hall0], by simp [hall0], by simp [hall0], h1, fun q hq => .inl (h2 q hq), fun x => by simp [tkF, hall0, h3]⟩
end Go.Sx.Plt
namespace Go.Sx.Plt
open Go.Proofs.Ytkhaemjoekfhiaa (mslF_keys psF tkF psF_snoc tkF_snoc nodup_snoc slices_bd slices_len)
theorem right_shifts {m : Mach} (h : rightM m) : m.shifts.length ≤ 200 ∧ wrongS 0 0 m.shifts = none := by
  have h1 := h.2.2.2
  unfold allowedF at h1
  split at h1
  · cases h1
  · rename_i hb
    split at h1
    · cases h1
    · split at h1
      · cases h1
      · rename_i h2
        exact ⟨by omega, h2⟩
theorem Inv.row_early {p : Plant} {i : Nat} {h : Hall} (hi : Inv p i h) {id n : Int} (h1 : id ≠ 0) (hn : ¬ Early p i id) : asF (id, n) h.rows = none := by
  rw [asF_none]
  intro q hq e
  rcases hi.rk q hq with h0 | h0
  · rw [e] at h0; exact h1 h0
  · rw [e] at h0; exact hn h0
/-- What a pass would take, counted. -/
theorem Inv.count {p : Plant} {i : Nat} {h : Hall} (hi : Inv p i h) {S : List (Int × Int)} (hS : S.Nodup) (hd : ∀ s ∈ S, s ∉ tkF (p.passes.take i)) (x : Int) : (S.flatMap h.row).count x + wF x (tkF (p.passes.take i) ++ S) h.rows ≤ (p.items.map Item.id).count x := by
  have h1 := wF_takes (x := x) hi.rn hS hd
  have h2 := hi.wt x
  have e : (S.flatMap fun s => (asF s h.rows).getD []) = S.flatMap h.row := rfl
  rw [e] at h1
  omega
theorem Inv.len {p : Plant} {i : Nat} {h : Hall} (hv : Valid p) (hi : Inv p i h) {S : List (Int × Int)} (hS : S.Nodup) (hd : ∀ s ∈ S, s ∉ tkF (p.passes.take i)) : (S.flatMap h.row).length ≤ 2000 := by
  have := len_of_count (a := S.flatMap h.row) (b := p.items.map Item.id) fun x => by have := hi.count hS hd x; omega
  rw [List.length_map] at this
  have := hv.small.2.1
  omega
theorem free_bd {p : Plant} {i : Nat} {h : Hall} (hi : Inv p i h) (id : Int) : 0 ≤ (asF id h.free).getD 0 ∧ (asF id h.free).getD 0 ≤ 1051898399 := by
  cases ho : asF id h.free with
  | none => simp
  | some v => exact hi.fb _ (asF_mem ho)
theorem Inv.ready {p : Plant} {i : Nat} {h : Hall} (hi : Inv p i h) {y : Pass} (hr : 0 ≤ y.rel ∧ y.rel ≤ 1051898399) {m : Mach} {ready : Int} {items : List Int} (ht : takeSrc h (max y.rel ((asF m.id h.free).getD 0)) [] y.src = some (ready, items)) : 0 ≤ ready ∧ ready ≤ 1051898399 := by
  obtain ⟨_, h2, h3⟩ := takeSrc_spec ht
  have hf := free_bd hi m.id
  have := h3 1051898399 (by omega) fun q hq => (hi.eb q hq).2.2
  omega
theorem need_bd {n : Nat} {r : Int} (hn : 0 < n ∧ n ≤ 2000) (hr : 1 ≤ r ∧ r ≤ 1000) : 1 ≤ needOf n r ∧ needOf n r ≤ 100000 := by
  unfold needOf
  constructor
  · exact Int.le_ediv_of_mul_le (by omega) (by omega)
  · have := Int.ediv_le_self r (show (0 : Int) ≤ (n : Int) + r - 1 by omega)
    omega
theorem Inv.job {p : Plant} {i : Nat} {h : Hall} (hv : Valid p) (hi : Inv p i h) {y : Pass} (hy : p.passes[i]? = some y) {m : Mach} (hm : rightM m) {ready : Int} {items : List Int} (ht : takeSrc h (max y.rel ((asF m.id h.free).getD 0)) [] y.src = some (ready, items)) (hne : items ≠ []) :
    allowedF [⟨y.id, ready, 1051898399, needOf items.length m.rate⟩] m.shifts = (0, 0) := by
  have hpo := (hv.pok i y hy).1
  have hrd := hi.ready hpo.2.2 ht
  obtain ⟨h1, _, _⟩ := takeSrc_spec ht
  rw [List.nil_append] at h1
  have hs := hv.src hy
  have hl := hi.len hv hs.1 fun s hs' => (hs.2 s hs').1
  rw [← h1] at hl
  have hpos := List.length_pos_iff.2 hne
  have hnb := need_bd ⟨hpos, hl⟩ hm.2.1
  obtain ⟨g1, g2⟩ := right_shifts hm
  unfold allowedF
  rw [if_neg (by simp; omega)]
  have hid := hpo.2.1
  unfold idOk at hid
  have hj : wrongJ [] 0 [(⟨y.id, ready, 1051898399, needOf items.length m.rate⟩ : Job)] = none := by
    rw [wrongJ, if_pos ⟨by unfold Job.ok; dsimp only; omega, by simp⟩]; rfl
  rw [hj]
  dsimp only
  rw [g2]
theorem Inv.fin {p : Plant} {i : Nat} {h : Hall} (hv : Valid p) (hi : Inv p i h) {y : Pass} (hy : p.passes[i]? = some y) {m : Mach} (hm : rightM m) {ready start fin : Int} {items : List Int} {sl : List (Int × Int)} (ht : takeSrc h (max y.rel ((asF m.id h.free).getD 0)) [] y.src = some (ready, items))
    (hc : (items = [] ∧ sl = [] ∧ start = ready ∧ fin = ready) ∨ (items ≠ [] ∧ sl = slicesF ready (needOf items.length m.rate) m.shifts ∧ sl ≠ [] ∧ needOf items.length m.rate ≤ spanF sl ∧ start = (sl.headD (0, 0)).1 ∧ fin = (sl.getLastD (0, 0)).2)) : 0 ≤ fin ∧ fin ≤ 1051898399 := by
  have hrd := hi.ready (hv.pok i y hy).1.2.2 ht
  rcases hc with ⟨_, _, _, rfl⟩ | ⟨hne, hsl, hsn, _, _, rfl⟩
  · exact hrd
  · obtain ⟨h1, _, h3⟩ := allowed_ok (hi.job hv hy hm ht hne)
    have hj := h1
    unfold Job.ok at hj
    dsimp only at hj
    refine last_bd ?_ hsn
    rw [hsl]
    exact slices_bd (by omega) (by omega) h3
theorem Inv.step {p : Plant} {i : Nat} (hv : Valid p) {y : Pass} (hy : p.passes[i]? = some y) (hi : Inv p i (hallAt p i)) : Inv p (i + 1) (hallAt p (i + 1)) := by
  obtain ⟨k, m, hmk, hmid, hmf, hmr, hml⟩ := hv.mach hy
  rw [hallAt_succ hy, hmf]
  generalize hallAt p i = h at hi ⊢
  have hs := hv.src hy
  have hnew := hv.new hy
  have hid0 : y.id ≠ 0 := by
    have := (hv.pok i y hy).1.2.1
    unfold idOk at this
    omega
  have hey : Early p (i + 1) y.id := ⟨i, y, Nat.lt_succ_self i, hy, rfl⟩
  rcases runF_cases h m (stopsF p.items) y with he | ⟨ready, items, start, fin, sl, res, ht, hres, he, hc⟩
  · rw [he]
    refine ⟨hi.en, fun q hq => ⟨(hi.eb q hq).1.mono, (hi.eb q hq).2⟩, hi.fn, hi.fb, hi.rn, fun q hq => (hi.rk q hq).imp id Early.mono, fun x => ?_⟩
    rw [tkF_snoc hy]
    have := hi.count hs.1 (fun s hs' => (hs.2 s hs').1) x
    show wF x _ h.rows ≤ _
    omega
  · rw [he]
    have hfin := hi.fin hv hy hmr ht hc
    obtain ⟨hit, _, _⟩ := takeSrc_spec ht
    rw [List.nil_append] at hit
    refine ⟨putF_nodup hi.en, fun q hq => ?_, putF_nodup hi.fn, fun q hq => ?_, putRows_nodup _ _ _ _ hi.rn, fun q hq => ?_, fun x => ?_⟩
    · dsimp only at hq
      have hk := putF_nodup (k := y.id) (v := fin) hi.en
      obtain ⟨j, hj⟩ := List.getElem?_of_mem hq
      have := asF_at (k := q.1) (v := q.2) hk hj
      rw [asF_put] at this
      by_cases e : y.id = q.1
      · rw [if_pos e] at this
        cases this
        exact ⟨e ▸ hey, hfin⟩
      · rw [if_neg e] at this
        have := hi.eb _ (asF_mem this)
        exact ⟨this.1.mono, this.2⟩
    · dsimp only at hq
      have hk := putF_nodup (k := m.id) (v := fin) hi.fn
      obtain ⟨j, hj⟩ := List.getElem?_of_mem hq
      have := asF_at (k := q.1) (v := q.2) hk hj
      rw [asF_put] at this
      by_cases e : m.id = q.1
      · rw [if_pos e] at this
        cases this
        exact hfin
      · rw [if_neg e] at this
        exact hi.fb _ (asF_mem this)
    · dsimp only at hq
      have hk := putRows_nodup y.id res.stackers 0 h.rows hi.rn
      obtain ⟨j, hj⟩ := List.getElem?_of_mem hq
      obtain ⟨⟨a, b⟩, l⟩ := q
      have := asF_at (k := (a, b)) (v := l) hk hj
      rw [putRows_as] at this
      split at this
      · rename_i hcc
        exact .inr (hcc.1 ▸ hey)
      · exact (hi.rk _ (asF_mem this)).imp id Early.mono
    · dsimp only
      rw [tkF_snoc hy]
      have hc1 := hi.count hs.1 (fun s hs' => (hs.2 s hs').1) x
      rw [← hit] at hc1
      have hc2 := stackers_count hres x
      rw [wF_rows (fun s hs' => ?_) _ _ _ (fun n _ => hi.row_early hid0 hnew)]
      · omega
      · intro e
        rcases List.mem_append.1 hs' with hh | hh
        · rcases hv.taken i s hh with h0 | h0
          · exact hid0 (e ▸ h0)
          · exact hnew (e ▸ h0)
        · rcases (hs.2 s hh).2 with h0 | h0
          · exact hid0 (e ▸ h0)
          · exact hnew (e ▸ h0)
theorem Inv.all {p : Plant} (hv : Valid p) : ∀ i, Inv p i (hallAt p i)
  | 0 => Inv.zero p
  | i + 1 => by
    cases hy : p.passes[i]? with
    | none =>
      have e1 : p.passes.take (i + 1) = p.passes.take i := by rw [List.take_add_one, hy]; simp
      have e2 : hallAt p (i + 1) = hallAt p i := by unfold hallAt; rw [e1]
      have hi := Inv.all hv i
      rw [e2]
      exact ⟨hi.en, fun q hq => ⟨(hi.eb q hq).1.mono, (hi.eb q hq).2⟩, hi.fn, hi.fb, hi.rn, fun q hq => (hi.rk q hq).imp id Early.mono, fun x => by rw [e1]; exact hi.wt x⟩
    | some y => exact Inv.step hv hy (Inv.all hv i)
theorem calm_of {p : Plant} (h : validF p = (0, 0)) : Calm p := by
  have hv := valid_of h
  refine ⟨h, hv.mnd, fun i y hy => ?_, fun i y hy => ?_, fun i => ⟨(Inv.all hv i).en, (Inv.all hv i).fn⟩, fun i y hy k => ?_, fun i y hy ready items ht hne => ?_⟩
  · obtain ⟨k, m, h1, h2, h3, h4, _⟩ := hv.mach hy
    exact ⟨k, m, h1, h2, h3, h4.2.1⟩
  · rw [asF_none]
    intro q hq e
    exact hv.new hy (e ▸ ((Inv.all hv i).eb q hq).1)
  · have hs := hv.src hy
    have := (Inv.all hv i).len hv (S := y.src.take k) (List.Sublist.nodup (List.take_sublist k _) hs.1) fun s hs' => (hs.2 s (List.mem_of_mem_take hs')).1
    omega
  · obtain ⟨k, m, h1, h2, h3, h4, _⟩ := hv.mach hy
    rw [h3] at ht ⊢
    exact (Inv.all hv i).job hv hy h4 ht hne
end Go.Sx.Plt
namespace Go.Proofs.Ytkhaemjoekfhiaa
open Go Go.Sx Go.RowKit
attribute [local irreducible] WL WC WQ WR WB WF QB St Exit.then Exit.inBlock Exit.noGoto bodyPost roundPost beginK YR RG BM Calls B AgainD MeetD
/-! ## Where, of a plant that is played -/
theorem sorted_is {dp ds df : Int} {x1 x2 x3 x4 x5 x6 x7 : Option Addr} {n1 k1 n2 k2 n3 k3 n4 k4 n5 k5 n6 k6 n7 k7 : Nat} {r : Plt.Run} {x rate t : Int} {b : Bool} (hso : Plt.sortedF r x rate t = b) (hrate : 1 ≤ rate ∧ rate ≤ 1000000) (hb : ∀ s ∈ r.slices, 0 ≤ s.1 ∧ s.1 ≤ s.2 ∧ s.2 ≤ 1051898399) (hn : r.slices.length ≤ 100000) (w : World)
    (h : RunV w ⟨dp, ds, df, (x1, n1, k1), (x2, n2, k2), (x3, n3, k3), (x4, n4, k4), (x5, n5, k5), (x6, n6, k6), (x7, n7, k7)⟩ r) : Calls Try.prog 33 #[.agg #[.int .i64 dp, .int .i64 ds, .int .i64 df, .slice x1 n1 k1, .slice x2 n2 k2, .slice x3 n3 k3, .slice x4 n4 k4, .slice x5 n5 k5, .slice x6 n6 k6, .slice x7 n7 k7], .int .i64 x, .int .i64 rate, .int .i64 t] w fun e w' => e = .returned (.bool b) ∧ Below w.heap.size w w' := by
  subst hso; exact sorted_calls hrate hb hn w h
theorem place_is {dp ds df : Int} {x1 x2 x3 x4 x5 x6 x7 : Option Addr} {n1 k1 n2 k2 n3 k3 n4 k4 n5 k5 n6 k6 n7 k7 : Nat} {r : Plt.Run} {x kd ps nu : Int} (he : Plt.placeF r x = (kd, ps, nu)) (w : World)
    (h : RunV w ⟨dp, ds, df, (x1, n1, k1), (x2, n2, k2), (x3, n3, k3), (x4, n4, k4), (x5, n5, k5), (x6, n6, k6), (x7, n7, k7)⟩ r) : Calls Try.prog 34 #[.agg #[.int .i64 dp, .int .i64 ds, .int .i64 df, .slice x1 n1 k1, .slice x2 n2 k2, .slice x3 n3 k3, .slice x4 n4 k4, .slice x5 n5 k5, .slice x6 n6 k6, .slice x7 n7 k7], .int .i64 x] w fun e w' => e = .returned (.agg #[.int .u8 kd, .int .i64 ps, .int .i64 nu]) ∧ Below w.heap.size w w' := place_calls he w h
set_option maxHeartbeats 8000000 in
set_option maxRecDepth 100000 in
theorem where_calls {q : PlD} {p : Plt.Plant} {x t kd ps nu k : Int} (hc : Plt.Calm p) (he : Plt.whereF p x t = ((kd, ps, nu), k)) (w : World) (h : PlV w q p) : Calls Try.prog 13 #[plV q, .int .i64 x, .int .i64 t] w fun e w' => e = .returned (.tuple #[.agg #[.int .u8 kd, .int .i64 ps, .int .i64 nu], .int .i64 k]) ∧ Below w.heap.size w w' := by
  have hV := h
  obtain ⟨⟨a1_, n1, c1⟩, ⟨a2, n2, c2⟩, ⟨a3, n3, c3⟩, ds, ys⟩ := q
  obtain ⟨hM, hI, hP, lm, lp, hmach, hpass⟩ := h
  dsimp only [sdV, plV] at hM hI hP lm lp hmach hpass ⊢
  obtain ⟨_, _, e1, hc1, hop1⟩ := hM.open
  cases e1
  obtain ⟨_, _, e2, hc2, hop2⟩ := hI.open
  cases e2
  obtain ⟨_, _, e3, hc3, hop3⟩ := hP.open
  cases e3
  rw [lm] at hM hop1 hc1 ⊢
  rw [lp] at hP hop3 hc3 ⊢
  have hV2 : PlV w ⟨(a1_, p.ms.length, c1), (a2, p.items.length, c2), (a3, p.passes.length, c3), ds, ys⟩ p := by
    refine ⟨?_, hI, ?_, lm, lp, hmach, hpass⟩
    · dsimp only [sdV]; exact hM
    · dsimp only [sdV]; exact hP
  clear hV
  have hplay := fun (w' : World) (L : List Ent) (hw : Rep w w' L) (ho : AO L) => (play_calls31 hc w' (hV2.keep hw ho) : Calls Try.prog 11 #[.agg #[.slice a1_ p.ms.length c1, .slice a2 p.items.length c2, .slice a3 p.passes.length c3]] w' _)
  have hpl0 := Plt.playF_len p
  unfold Plt.whereF at he
  cases hz0 : Plt.idxF x (p.items.map Plt.Item.id) with
  | none =>
    have hz : Plt.idxI x (p.items.map Plt.Item.id) = -1 := by unfold Plt.idxI; rw [hz0]
    rw [hz0] at he
    cases he
    as_aux_lemma =>
      refine f_enterM3 Try.func13 rfl Try.ntmps13 rfl (Rep.start w) ?_
      repeat' (first | ((with_reducible apply c_cond_t); exact rfl; exact decide_eq_true (by omega)) | ((with_reducible apply c_cond_f); exact rfl; exact decide_eq_false (by omega)) | ((first | ((with_reducible apply o_call_new (f := 11)); exact rfl) | ((with_reducible apply q_call_new (f := 11)); exact rfl; exact rfl; exact sJ_)); exact eV_; exact (fun w hw => hplay w _ hw (by exact aO_)); rintro v N ⟨ar, cr, rds, rfl, ⟨hsh, hrl⟩, oN⟩ <;> (try simp only [List.cons_append, List.nil_append])) | ((first | ((with_reducible apply o_call_pure (f := 30)); exact rfl) | ((with_reducible apply q_call_pure (f := 30)); exact rfl; kernel_rfl; exact rfl; exact sJ_)); exact eV_; exact (fun w hw => indexFunc_is hz w (hI.keep hw (by exact aO_)) (hw.at (by exact aT_)))) | ((with_reducible first | apply o_move | apply o_assign | apply o_faddr0); exact rfl; exact rfl) | ((with_reducible apply gdo_load); first | refine wo_load (h := ?_) | refine wo_loadAll (h := ?_) | refine wo_loadC (h := ?_) | refine wo_ldV (h := ?_) | refine wo_ldF (h := ?_)) | ((with_reducible first | apply o_lss | apply o_gtr | apply o_neq | apply o_extract); exact rfl; exact rfl; exact rfl) | ((with_reducible first | apply o_alloc | apply o_makeMap0); exact rfl; intro _) | ((with_reducible apply o_box); exact rfl; exact rfl; exact rfl; intro _) | ((with_reducible apply gdo_store); first | refine wo_store1 (h := ?_) | refine wo_storeA (h := ?_)) | ((with_reducible apply gdo_build); first | refine wo_build (h := ?_)) | ((with_reducible apply gdo_makeFunc); refine wo_func (h := ?_)) | ((with_reducible first | apply c_seq | apply c_block | apply c_region | apply c_nil | apply c_ret | apply c_exit | apply c_skip)) | ((with_reducible first | apply e_then | apply e_then_ret | apply e_then_exit | apply e_in | apply e_in_ret | apply e_in_same)))
      (first | ((with_reducible apply r_M1); exact aT_; exact uP_; apply res2 Try.results13; exact rV_; exact rV_; intro w' hw) | ((with_reducible apply r_M0); apply res2 Try.results13; exact rV_; exact rV_; intro w' hw))
      exact ⟨rfl, hw.below (show AO _ by exact aO_)⟩
  | some k0 =>
  have hz : Plt.idxI x (p.items.map Plt.Item.id) = (k0 : Int) := by unfold Plt.idxI; rw [hz0]
  have hkl : k0 < p.items.length := by
    have := (List.getElem?_eq_some_iff.1 (Plt.idxF_some hz0).1).1
    simpa using this
  rw [hz0] at he
  dsimp only at he
  by_cases ht0 : t < 0
  · rw [if_pos ht0] at he
    cases he
    as_aux_lemma =>
      refine f_enterM3 Try.func13 rfl Try.ntmps13 rfl (Rep.start w) ?_
      repeat' (first | ((with_reducible apply c_cond_t); exact rfl; exact decide_eq_true (by omega)) | ((with_reducible apply c_cond_f); exact rfl; exact decide_eq_false (by omega)) | ((first | ((with_reducible apply o_call_new (f := 11)); exact rfl) | ((with_reducible apply q_call_new (f := 11)); exact rfl; exact rfl; exact sJ_)); exact eV_; exact (fun w hw => hplay w _ hw (by exact aO_)); rintro v N ⟨ar, cr, rds, rfl, ⟨hsh, hrl⟩, oN⟩ <;> (try simp only [List.cons_append, List.nil_append])) | ((first | ((with_reducible apply o_call_pure (f := 30)); exact rfl) | ((with_reducible apply q_call_pure (f := 30)); exact rfl; kernel_rfl; exact rfl; exact sJ_)); exact eV_; exact (fun w hw => indexFunc_is hz w (hI.keep hw (by exact aO_)) (hw.at (by exact aT_)))) | ((with_reducible first | apply o_move | apply o_assign | apply o_faddr0); exact rfl; exact rfl) | ((with_reducible apply gdo_load); first | refine wo_load (h := ?_) | refine wo_loadAll (h := ?_) | refine wo_loadC (h := ?_) | refine wo_ldV (h := ?_) | refine wo_ldF (h := ?_)) | ((with_reducible first | apply o_lss | apply o_gtr | apply o_neq | apply o_extract); exact rfl; exact rfl; exact rfl) | ((with_reducible first | apply o_alloc | apply o_makeMap0); exact rfl; intro _) | ((with_reducible apply o_box); exact rfl; exact rfl; exact rfl; intro _) | ((with_reducible apply gdo_store); first | refine wo_store1 (h := ?_) | refine wo_storeA (h := ?_)) | ((with_reducible apply gdo_build); first | refine wo_build (h := ?_)) | ((with_reducible apply gdo_makeFunc); refine wo_func (h := ?_)) | ((with_reducible first | apply c_seq | apply c_block | apply c_region | apply c_nil | apply c_ret | apply c_exit | apply c_skip)) | ((with_reducible first | apply e_then | apply e_then_ret | apply e_then_exit | apply e_in | apply e_in_ret | apply e_in_same)))
      (first | ((with_reducible apply r_M1); exact aT_; exact uP_; apply res2 Try.results13; exact rV_; exact rV_; intro w' hw) | ((with_reducible apply r_M0); apply res2 Try.results13; exact rV_; exact rV_; intro w' hw))
      exact ⟨rfl, hw.below (show AO _ by exact aO_)⟩
  rw [if_neg ht0] at he
  by_cases ht1 : 1051898399 < t
  · rw [if_pos ht1] at he
    cases he
    as_aux_lemma =>
      refine f_enterM3 Try.func13 rfl Try.ntmps13 rfl (Rep.start w) ?_
      repeat' (first | ((with_reducible apply c_cond_t); exact rfl; exact decide_eq_true (by omega)) | ((with_reducible apply c_cond_f); exact rfl; exact decide_eq_false (by omega)) | ((first | ((with_reducible apply o_call_new (f := 11)); exact rfl) | ((with_reducible apply q_call_new (f := 11)); exact rfl; exact rfl; exact sJ_)); exact eV_; exact (fun w hw => hplay w _ hw (by exact aO_)); rintro v N ⟨ar, cr, rds, rfl, ⟨hsh, hrl⟩, oN⟩ <;> (try simp only [List.cons_append, List.nil_append])) | ((first | ((with_reducible apply o_call_pure (f := 30)); exact rfl) | ((with_reducible apply q_call_pure (f := 30)); exact rfl; kernel_rfl; exact rfl; exact sJ_)); exact eV_; exact (fun w hw => indexFunc_is hz w (hI.keep hw (by exact aO_)) (hw.at (by exact aT_)))) | ((with_reducible first | apply o_move | apply o_assign | apply o_faddr0); exact rfl; exact rfl) | ((with_reducible apply gdo_load); first | refine wo_load (h := ?_) | refine wo_loadAll (h := ?_) | refine wo_loadC (h := ?_) | refine wo_ldV (h := ?_) | refine wo_ldF (h := ?_)) | ((with_reducible first | apply o_lss | apply o_gtr | apply o_neq | apply o_extract); exact rfl; exact rfl; exact rfl) | ((with_reducible first | apply o_alloc | apply o_makeMap0); exact rfl; intro _) | ((with_reducible apply o_box); exact rfl; exact rfl; exact rfl; intro _) | ((with_reducible apply gdo_store); first | refine wo_store1 (h := ?_) | refine wo_storeA (h := ?_)) | ((with_reducible apply gdo_build); first | refine wo_build (h := ?_)) | ((with_reducible apply gdo_makeFunc); refine wo_func (h := ?_)) | ((with_reducible first | apply c_seq | apply c_block | apply c_region | apply c_nil | apply c_ret | apply c_exit | apply c_skip)) | ((with_reducible first | apply e_then | apply e_then_ret | apply e_then_exit | apply e_in | apply e_in_ret | apply e_in_same)))
      (first | ((with_reducible apply r_M1); exact aT_; exact uP_; apply res2 Try.results13; exact rV_; exact rV_; intro w' hw) | ((with_reducible apply r_M0); apply res2 Try.results13; exact rV_; exact rV_; intro w' hw))
      exact ⟨rfl, hw.below (show AO _ by exact aO_)⟩
  rw [if_neg ht1] at he
  refine f_enterM3 Try.func13 rfl Try.ntmps13 rfl (Rep.start w) ?_
  repeat' (first | ((with_reducible apply c_cond_f); exact rfl; exact decide_eq_false (by omega)) | ((first | ((with_reducible apply o_call_new (f := 11)); exact rfl) | ((with_reducible apply q_call_new (f := 11)); exact rfl; exact rfl; exact sJ_)); exact eV_; exact (fun w hw => hplay w _ hw (by exact aO_)); rintro v N ⟨ar, cr, rds, rfl, ⟨hsh, hrl⟩, oN⟩ <;> (try simp only [List.cons_append, List.nil_append])) | ((first | ((with_reducible apply o_call_pure (f := 30)); exact rfl) | ((with_reducible apply q_call_pure (f := 30)); exact rfl; kernel_rfl; exact rfl; exact sJ_)); exact eV_; exact (fun w hw => indexFunc_is hz w (hI.keep hw (by exact aO_)) (hw.at (by exact aT_)))) | ((with_reducible first | apply o_move | apply o_assign | apply o_faddr0); exact rfl; exact rfl) | ((with_reducible apply gdo_load); first | refine wo_load (h := ?_) | refine wo_loadAll (h := ?_) | refine wo_loadC (h := ?_) | refine wo_ldV (h := ?_) | refine wo_ldF (h := ?_)) | ((with_reducible first | apply o_lss | apply o_gtr | apply o_neq | apply o_extract); exact rfl; exact rfl; exact rfl) | ((with_reducible first | apply o_alloc | apply o_makeMap0); exact rfl; intro _) | ((with_reducible apply o_box); exact rfl; exact rfl; exact rfl; intro _) | ((with_reducible apply gdo_store); first | refine wo_store1 (h := ?_) | refine wo_storeA (h := ?_)) | ((with_reducible apply o_len); infer_instance; exact rfl; exact rfl) | ((with_reducible apply gdo_makeFunc); refine wo_func (h := ?_)) | ((with_reducible apply o_makeMap); infer_instance; exact rfl; exact rfl; intro _) | ((with_reducible first | apply c_seq | apply c_block | apply c_region | apply c_nil | apply c_ret | apply c_exit | apply c_skip)) | ((with_reducible first | apply e_then | apply e_then_ret | apply e_then_exit | apply e_in | apply e_in_ret | apply e_in_same)))
  rename_i b3 b4 b5 b6 b7 bm b11
  apply c_loop (σ := Nat) (Fs := fun i => [(48, .int .i64 i), (47, .int .i64 p.ms.length), (46, .slice a1_ p.ms.length c1), (11, ptr b11), (10, .int .i64 k0), (8, .slice ar (Plt.playF p).length cr), (7, ptr b7), (6, ptr b6), (5, ptr b5), (4, ptr b4), (3, ptr b3)])
    (Ls := fun i => ⟨b11, Ce [.map (some bm)] 72, true⟩ :: ⟨bm, MO (MM kI kI (Plt.ratesF (p.ms.take i))), true⟩ :: (N ++ (⟨b7, Ce [.int .i64 0] 32, true⟩ :: ⟨b6, Ce [.int .u8 0, .int .i64 0, .int .i64 0] 40, true⟩ :: ⟨b5, Ce [.int .i64 t] 3, true⟩ :: ⟨b4, Ce [.int .i64 x] 3, true⟩ :: ⟨b3, Ce [.slice a1_ p.ms.length c1, .slice a2 p.items.length c2, .slice a3 p.passes.length c3] 29, true⟩ :: [])))
    (I := fun i => i ≤ p.ms.length) (μ := fun i => p.ms.length - i) (s0 := 0)
  · exact Nat.zero_le _
  · exact fS_
  · exact hS_
  intro i hi
  have hi : i ≤ p.ms.length := hi
  by_cases hlt : i < p.ms.length
  · obtain ⟨d, hd⟩ : ∃ d, ds[i]? = some d := ⟨_, List.getElem?_eq_getElem (by omega)⟩
    obtain ⟨m, hx⟩ : ∃ m, p.ms[i]? = some m := ⟨_, List.getElem?_eq_getElem hlt⟩
    have hmv := hmach i d m hd hx
    obtain ⟨b, off, cc, e, fz, rfl, hk, hpt⟩ := hop1 (by omega)
    obtain ⟨id, sw, ra, ⟨x1, k1, z1⟩, ⟨x2, k2, z2⟩⟩ := d
    have g1 : ∀ j u, ([.int .i64 id, .int .i64 sw, .int .i64 ra, .slice x1 k1 z1, .slice x2 k2 z2] : List Value)[j]? = some u → cc[off + i * 5 + j]? = some u := hpt.get hd
    obtain ⟨e1, e2⟩ : id = m.id ∧ ra = m.rate := ⟨hmv.id, hmv.rate⟩
    subst e1 e2
    have hnd := List.Sublist.nodup (List.Sublist.map Plt.Mach.id (List.take_sublist i p.ms)) hc.nd
    have hnk : ((Plt.ratesF (p.ms.take i)).map Prod.fst).Nodup := by rw [Plt.ratesF_keys]; exact hnd
    have hput : putF m.id m.rate (Plt.ratesF (p.ms.take i)) = Plt.ratesF (p.ms.take (i + 1)) := by
      have hn2 := List.Sublist.nodup (List.Sublist.map Plt.Mach.id (List.take_sublist (i + 1) p.ms)) hc.nd
      rw [take_snoc hx, List.map_append, List.nodup_append] at hn2
      have hout : asF m.id (Plt.ratesF (p.ms.take i)) = none := by
        rw [asF_none]
        intro z hz e
        obtain ⟨m', hm', rfl⟩ := List.mem_map.1 hz
        exact hn2.2.2 m'.id (List.mem_map.2 ⟨m', hm', rfl⟩) m.id (by simp) e
      rw [putF_new hout, take_snoc hx]; simp [Plt.ratesF]
    as_aux_lemma =>
      repeat' (first | ((with_reducible apply c_cond_t); exact rfl; exact decide_eq_true (by omega)) | ((with_reducible apply o_mapPut (κ := kI) (ν := kI) (k := m.id) (v := m.rate)); infer_instance; infer_instance; exact rfl; exact rfl; exact rfl; exact aT_; assumption; exact uP_) | ((with_reducible first | apply o_move | apply o_assign | apply o_faddr0); exact rfl; exact rfl) | ((with_reducible apply gdo_load); first | refine wo_load (h := ?_) | refine wo_loadAll (h := ?_) | refine wo_loadC (h := ?_) | refine wo_ldV (h := ?_) | refine wo_ldF (h := ?_)) | ((with_reducible first | apply o_lss | apply o_gtr | apply o_neq | apply o_extract); exact rfl; exact rfl; exact rfl) | ((with_reducible apply o_add); exact rfl; exact rfl; exact rfl; (constructor <;> omega)) | ((with_reducible first | apply o_alloc | apply o_makeMap0); exact rfl; intro _) | ((with_reducible apply gdo_store); first | refine wo_store1 (h := ?_) | refine wo_storeA (h := ?_)) | ((with_reducible apply o_idx); infer_instance; infer_instance; exact rfl; exact rfl; (first | exact rfl | omega); exact rfl; (first | assumption | omega | decide)) | ((with_reducible first | apply c_seq | apply c_block | apply c_region | apply c_nil | apply c_ret | apply c_exit | apply c_skip)) | ((with_reducible first | apply e_then | apply e_then_ret | apply e_then_exit | apply e_in | apply e_in_ret | apply e_in_same)))
      refine l_again (i + 1) (by omega) (by omega) ?_ ?_
      · exact fS_
      · (try dsimp only); rw [← hput]; exact hS_
  obtain rfl : i = p.ms.length := by omega
  rw [List.take_length]
  have hrn : ((Plt.ratesF p.ms).map Prod.fst).Nodup := by rw [Plt.ratesF_keys]; exact hc.nd
  clear hop1 hmach
  repeat' (first | ((with_reducible apply c_cond_f); exact rfl; exact decide_eq_false (by omega)) | ((first | ((with_reducible apply o_call_new (f := 32)); exact rfl) | ((with_reducible apply q_call_new (f := 32)); exact rfl; exact rfl; exact sJ_)); exact eV_; exact (fun w _ => backward_calls _ _ _ w); rintro v NB ⟨bb, rfl, rfl⟩ <;> (try simp only [List.cons_append, List.nil_append])) | ((with_reducible first | apply o_move | apply o_assign | apply o_faddr0); exact rfl; exact rfl) | ((with_reducible first | apply o_lss | apply o_gtr | apply o_neq | apply o_extract); exact rfl; exact rfl; exact rfl) | ((with_reducible first | apply c_seq | apply c_block | apply c_region | apply c_nil | apply c_ret | apply c_exit | apply c_skip)) | ((with_reducible first | apply e_then | apply e_then_ret | apply e_then_exit | apply e_in | apply e_in_ret | apply e_in_same)))
  (apply c_rangeFunc1; exact rfl; infer_instance; exact rfl; exact Try.ntmps49; exact rfl; intro lp bd Z a1 ha1 hZ)
  repeat' (first | ((with_reducible first | apply o_move | apply o_assign | apply o_faddr0 | apply o_not_d); exact rfl; exact rfl) | ((with_reducible apply gdo_load); first | refine wo_load (h := ?_) | refine wo_loadAll (h := ?_) | refine wo_loadC (h := ?_) | refine wo_ldV (h := ?_) | refine wo_ldF (h := ?_)) | ((with_reducible first | apply o_add | apply o_sub); exact rfl; exact rfl; exact rfl; (constructor <;> omega)) | ((with_reducible apply o_len); infer_instance; exact rfl; exact rfl) | ((with_reducible first | apply c_seq | apply c_block | apply c_region | apply c_nil | apply c_ret | apply c_exit | apply c_skip)) | ((with_reducible first | apply e_then | apply e_then_ret | apply e_then_exit | apply e_in | apply e_in_ret | apply e_in_same)))
  apply c_loop (σ := Int) (Fs := fun j => [(3, .int .i64 j), (0, .func (.yield lp) #[] #[]), (1, ptr bb)])
    (Ls := fun j => ⟨lp, Z .ready none, true⟩ :: ⟨bd, .deferred (some []), true⟩ :: ⟨bb, Ce [.slice ar (Plt.playF p).length cr] 31, true⟩ :: ⟨b11, Ce [.map (some bm)] 72, true⟩ :: ⟨bm, MO (MM kI kI (Plt.ratesF p.ms)), true⟩ :: (N ++ (⟨b7, Ce [.int .i64 0] 32, true⟩ :: ⟨b6, Ce [.int .u8 0, .int .i64 0, .int .i64 0] 40, true⟩ :: ⟨b5, Ce [.int .i64 t] 3, true⟩ :: ⟨b4, Ce [.int .i64 x] 3, true⟩ :: ⟨b3, Ce [.slice a1_ p.ms.length c1, .slice a2 p.items.length c2, .slice a3 p.passes.length c3] 29, true⟩ :: [])))
    (I := fun j => (-1 ≤ j ∧ j < p.passes.length) ∧ Plt.lastF p x t p.passes.length = Plt.lastF p x t (j + 1).toNat) (μ := fun j => (j + 1).toNat) (s0 := ((Plt.playF p).length : Int) - 1)
  · refine ⟨by omega, ?_⟩
    congr 1; omega
  · exact fS_
  · exact hS_
  rintro j ⟨hj, hlast⟩
  by_cases hj0 : 0 ≤ j
  · obtain ⟨n, rfl⟩ := Int.eq_ofNat_of_zero_le hj0
    have hnl : n < p.passes.length := by omega
    obtain ⟨y, hy⟩ : ∃ y, p.passes[n]? = some y := ⟨_, List.getElem?_eq_getElem hnl⟩
    obtain ⟨r, hr⟩ : ∃ r, (Plt.playF p)[n]? = some r := ⟨_, List.getElem?_eq_getElem (by omega)⟩
    obtain ⟨d, hd⟩ : ∃ d, rds[n]? = some d := ⟨_, List.getElem?_eq_getElem (by omega)⟩
    obtain ⟨pd, hpd⟩ : ∃ d, ys[n]? = some d := ⟨_, List.getElem?_eq_getElem (by omega)⟩
    have hpv := hpass n pd y hpd hy
    obtain ⟨pid, pma, pre, ⟨v1, w1, u1⟩, ⟨v2, w2, u2⟩, ⟨v3, w3, u3⟩⟩ := pd
    obtain ⟨b, off, cc, e, fz, rfl, hk, hpt⟩ := hop3 (by omega)
    have g1 : ∀ j u, ([.int .i64 pid, .int .i64 pma, .int .i64 pre, .slice v1 w1 u1, .slice v2 w2 u2, .slice v3 w3 u3] : List Value)[j]? = some u → cc[off + n * 6 + j]? = some u := hpt.get hpd
    obtain rfl : pma = y.mach := hpv.mach
    obtain ⟨mj, m, hmj, hmid, hmf, hmr⟩ := hc.mach n y hy
    have hlk : asF y.mach (Plt.ratesF p.ms) = some m.rate := by rw [← hmid]; exact Plt.ratesF_at hc.nd hmj
    have hrs := Plt.runF_slices (stops := Plt.stopsF p.items) (hc.job n y hy)
    have hget := Plt.playF_get hy
    rw [hr] at hget
    rw [← Option.some.inj hget] at hrs
    obtain ⟨hsn, hsb⟩ := hrs
    have hsn : r.slices.length ≤ 100000 := by omega
    have hat : Plt.sortedAt p x t n = Plt.sortedF r x m.rate t := by unfold Plt.sortedAt; rw [hr, hy]; dsimp only; rw [hmf]
    rw [show ((n : Int) + 1).toNat = n + 1 from by omega, Plt.lastF, hat] at hlast
    obtain ⟨rate, hrate0⟩ : ∃ rate, m.rate = rate := ⟨_, rfl⟩
    rw [hrate0] at hlk hlast hmr
    have hrate : 1 ≤ rate ∧ rate ≤ 1000000 := by omega
    obtain ⟨dp, ds', df, ⟨x1, n1, k1⟩, ⟨x2, n2, k2⟩, ⟨x3, n3, k3⟩, ⟨x4, n4, k4⟩, ⟨x5, n5, k5⟩, ⟨x6, n6, k6⟩, ⟨x7, n7, k7⟩⟩ := d
    refine st_know (p := ∃ b off, ar = some ⟨b, off, none⟩) (fun w' hw' => ?_) ?_
    · obtain ⟨_, _, e1, _, hop⟩ := (hsh _ _ _ _ (by exact rL_) hw').1.open
      simp only [Value.slice.injEq] at e1
      obtain ⟨b, off, _, _, _, e, _⟩ := hop (by omega)
      exact ⟨b, off, e1.1.trans e⟩
    rintro ⟨br, offr, rfl⟩
    cases hso : Plt.sortedF r x rate t with
    | true =>
      rw [hso, if_pos rfl] at hlast
      rw [hlast] at he
      dsimp only at he
      rw [hr] at he
      dsimp only at he
      obtain ⟨hpl, rfl⟩ : Plt.placeF r x = (kd, ps, nu) ∧ k = 0 := by simp only [Prod.mk.injEq] at he ⊢; exact ⟨by rw [he.1], he.2.symm⟩
      as_aux_lemma =>
        repeat' (first | ((with_reducible apply c_cond_t); exact rfl; exact decide_eq_true (by omega)) | ((with_reducible apply o_yield); exact rfl; exact eV_; assumption; assumption; exact aT_; exact rfl; exact rfl; (repeat (first | exact RPar.nil | apply RPar.cons)); intro aI haI) | ((with_reducible apply e_begin); assumption; exact aT_; exact uP_) | (first | ((with_reducible apply e_round); assumption; exact rfl; assumption; exact aT_; exact uP_) | ((with_reducible apply e_round_ret); assumption; exact rfl; assumption; exact aT_; exact uP_) | ((with_reducible apply e_round_exit); assumption; exact rfl; assumption; exact aT_; exact uP_)) | (first | apply r_iter Try.results49 | apply r_iter' Try.results49) | (first | ((with_reducible apply e_range); assumption; assumption; exact aT_; (intro hst; cases hst); exact uP_) | ((with_reducible apply e_rangeJ); assumption; assumption; exact aT_; (intro hst; cases hst); exact uP_)) | ((with_reducible apply o_ldPV (l := [.int .i64 dp, .int .i64 ds', .int .i64 df, .slice x1 n1 k1, .slice x2 n2 k2, .slice x3 n3 k3, .slice x4 n4 k4, .slice x5 n5 k5, .slice x6 n6 k6, .slice x7 n7 k7])); infer_instance; infer_instance; exact rfl; (intro w' hw' j' v' hj'; exact SV.cell (hsh _ _ _ _ (by exact rL_) hw').1 hd hj'); exact rfl; exact rfl) | ((with_reducible apply q_lookM_in (κ := kI) (ν := kI) (k := y.mach) (v := rate)); infer_instance; infer_instance; exact rfl; exact rfl; exact sJ_; exact rfl; exact kN_; assumption; assumption; exact rfl) | ((first | ((with_reducible apply o_call_pure (f := 33)); exact rfl) | ((with_reducible apply q_call_pure (f := 33)); exact rfl; kernel_rfl; exact rfl; exact sJ_)); exact eV_; exact (fun w hw => sorted_is hso hrate hsb hsn w ((hsh _ _ _ _ (by exact rL_) hw).2.2 n _ _ hd hr))) | ((first | ((with_reducible apply o_call_pure (f := 34)); exact rfl) | ((with_reducible apply q_call_pure (f := 34)); exact rfl; kernel_rfl; exact rfl; exact sJ_)); exact eV_; exact (fun w hw => place_is hpl w ((hsh _ _ _ _ (by exact rL_) hw).2.2 n _ _ hd hr))) | ((with_reducible first | apply o_move | apply o_assign | apply o_faddr0 | apply o_not_d); exact rfl; exact rfl) | ((with_reducible apply gdo_load); first | refine wo_load (h := ?_) | refine wo_loadAll (h := ?_) | refine wo_loadC (h := ?_) | refine wo_ldV (h := ?_) | refine wo_ldF (h := ?_)) | ((with_reducible first | apply o_lss | apply o_gtr | apply o_geq | apply o_neq | apply o_extract); exact rfl; exact rfl; exact rfl) | ((with_reducible apply o_not); exact rfl; exact rfl) | ((with_reducible first | apply o_alloc | apply o_makeMap0); exact rfl; intro _) | ((with_reducible apply gdo_store); first | refine wo_store1 (h := ?_) | refine wo_storeA (h := ?_)) | ((with_reducible apply o_idx); infer_instance; infer_instance; exact rfl; exact rfl; (first | exact rfl | omega); exact rfl; (first | assumption | omega | decide)) | ((with_reducible first | apply c_seq | apply c_block | apply c_region | apply c_nil | apply c_ret | apply c_exit | apply c_skip)) | ((with_reducible apply c_cond_t); exact rfl; exact tT_) | ((with_reducible first | apply e_then | apply e_then_ret | apply e_then_exit | apply e_in | apply e_in_ret | apply e_in_same)) | ((with_reducible apply c_regionD0 (id := 20) []); kernel_rfl; kernel_rfl) | ((with_reducible apply q_nil); try simp only [ents, List.cons_append, List.nil_append]) | ((with_reducible first | apply q_move | apply q_assign | apply q_faddr0); exact rfl; exact rfl) | ((with_reducible first | apply q_faddr); exact rfl; exact rfl) | ((with_reducible apply gdq_load); first | refine wq_load (h := ?_) | refine wq_loadAll (h := ?_) | refine wq_loadC (h := ?_) | refine wq_ldF (h := ?_)) | ((with_reducible apply q_idx); infer_instance; infer_instance; exact rfl; exact rfl; (first | exact rfl | omega); exact rfl; (first | assumption | omega | decide)))
        (first | ((with_reducible apply r_M1); exact aT_; exact uP_; apply res2 Try.results13; exact rV_; exact rV_; intro w' hw) | ((with_reducible apply r_M0); apply res2 Try.results13; exact rV_; exact rV_; intro w' hw))
        exact ⟨rfl, hw.below (show AO _ by exact aO_)⟩
    | false =>
      rw [hso, if_neg (by simp)] at hlast
      as_aux_lemma =>
        repeat' (first | ((with_reducible apply c_cond_t); exact rfl; exact decide_eq_true (by omega)) | ((with_reducible apply o_yield); exact rfl; exact eV_; assumption; assumption; exact aT_; exact rfl; exact rfl; (repeat (first | exact RPar.nil | apply RPar.cons)); intro aI haI) | ((with_reducible apply e_begin); assumption; exact aT_; exact uP_) | (first | ((with_reducible apply e_round); assumption; exact rfl; assumption; exact aT_; exact uP_) | ((with_reducible apply e_round_ret); assumption; exact rfl; assumption; exact aT_; exact uP_) | ((with_reducible apply e_round_exit); assumption; exact rfl; assumption; exact aT_; exact uP_)) | (first | apply r_iter Try.results49 | apply r_iter' Try.results49) | (first | ((with_reducible apply e_range); assumption; assumption; exact aT_; (intro hst; cases hst); exact uP_) | ((with_reducible apply e_rangeJ); assumption; assumption; exact aT_; (intro hst; cases hst); exact uP_)) | ((with_reducible apply o_ldPV (l := [.int .i64 dp, .int .i64 ds', .int .i64 df, .slice x1 n1 k1, .slice x2 n2 k2, .slice x3 n3 k3, .slice x4 n4 k4, .slice x5 n5 k5, .slice x6 n6 k6, .slice x7 n7 k7])); infer_instance; infer_instance; exact rfl; (intro w' hw' j' v' hj'; exact SV.cell (hsh _ _ _ _ (by exact rL_) hw').1 hd hj'); exact rfl; exact rfl) | ((with_reducible apply q_lookM_in (κ := kI) (ν := kI) (k := y.mach) (v := rate)); infer_instance; infer_instance; exact rfl; exact rfl; exact sJ_; exact rfl; exact kN_; assumption; assumption; exact rfl) | ((first | ((with_reducible apply o_call_pure (f := 33)); exact rfl) | ((with_reducible apply q_call_pure (f := 33)); exact rfl; kernel_rfl; exact rfl; exact sJ_)); exact eV_; exact (fun w hw => sorted_is hso hrate hsb hsn w ((hsh _ _ _ _ (by exact rL_) hw).2.2 n _ _ hd hr))) | ((with_reducible first | apply o_move | apply o_assign | apply o_faddr0 | apply o_not_d); exact rfl; exact rfl) | ((with_reducible apply gdo_load); first | refine wo_load (h := ?_) | refine wo_loadAll (h := ?_) | refine wo_loadC (h := ?_) | refine wo_ldV (h := ?_) | refine wo_ldF (h := ?_)) | ((with_reducible first | apply o_lss | apply o_gtr | apply o_geq | apply o_neq | apply o_extract); exact rfl; exact rfl; exact rfl) | ((with_reducible apply o_not); exact rfl; exact rfl) | ((with_reducible first | apply o_add | apply o_sub); exact rfl; exact rfl; exact rfl; (constructor <;> omega)) | ((with_reducible first | apply o_alloc | apply o_makeMap0); exact rfl; intro _) | ((with_reducible apply gdo_store); first | refine wo_store1 (h := ?_) | refine wo_storeA (h := ?_)) | ((with_reducible apply o_idx); infer_instance; infer_instance; exact rfl; exact rfl; (first | exact rfl | omega); exact rfl; (first | assumption | omega | decide)) | ((with_reducible first | apply c_seq | apply c_block | apply c_region | apply c_nil | apply c_ret | apply c_exit | apply c_skip)) | ((with_reducible apply c_cond_f); exact rfl; exact fF_) | ((with_reducible first | apply e_then | apply e_then_ret | apply e_then_exit | apply e_in | apply e_in_ret | apply e_in_same)) | ((with_reducible apply c_regionD0 (id := 20) []); kernel_rfl; kernel_rfl) | ((with_reducible apply q_nil); try simp only [ents, List.cons_append, List.nil_append]) | ((with_reducible first | apply q_move | apply q_assign | apply q_faddr0); exact rfl; exact rfl) | ((with_reducible first | apply q_faddr); exact rfl; exact rfl) | ((with_reducible apply gdq_load); first | refine wq_load (h := ?_) | refine wq_loadAll (h := ?_) | refine wq_loadC (h := ?_) | refine wq_ldF (h := ?_)) | ((with_reducible apply q_idx); infer_instance; infer_instance; exact rfl; exact rfl; (first | exact rfl | omega); exact rfl; (first | assumption | omega | decide)))
        refine l_again ((n : Int) - 1) ⟨by omega, by rw [hlast]; congr 1; omega⟩ (by omega) ?_ ?_
        · exact fS_
        · exact hS_
  obtain rfl : j = -1 := by omega
  rw [show ((-1 : Int) + 1).toNat = 0 from rfl, Plt.lastF] at hlast
  rw [hlast] at he
  obtain ⟨⟨yi, ys', yb⟩, hyk⟩ : ∃ y, p.items[k0]? = some y := ⟨_, List.getElem?_eq_getElem hkl⟩
  rw [hyk] at he
  cases he
  obtain ⟨b, off, cc, e, fz, rfl, hk, hpt⟩ := hop2 (by omega)
  have g1 : ∀ j u, ([.int .i64 yi, .int .i64 ys', .int .i64 yb] : List Value)[j]? = some u → cc[off + k0 * 3 + j]? = some u := hpt.get hyk
  as_aux_lemma =>
    repeat' (first | ((with_reducible apply c_cond_f); exact rfl; exact decide_eq_false (by omega)) | ((with_reducible apply o_yield); exact rfl; exact eV_; assumption; assumption; exact aT_; exact rfl; exact rfl; (repeat (first | exact RPar.nil | apply RPar.cons)); intro aI haI) | ((with_reducible apply e_begin); assumption; exact aT_; exact uP_) | (first | ((with_reducible apply e_round); assumption; exact rfl; assumption; exact aT_; exact uP_) | ((with_reducible apply e_round_ret); assumption; exact rfl; assumption; exact aT_; exact uP_) | ((with_reducible apply e_round_exit); assumption; exact rfl; assumption; exact aT_; exact uP_)) | (first | apply r_iter Try.results49 | apply r_iter' Try.results49) | (first | ((with_reducible apply e_range); assumption; assumption; exact aT_; (intro hst; cases hst); exact uP_) | ((with_reducible apply e_rangeJ); assumption; assumption; exact aT_; (intro hst; cases hst); exact uP_)) | ((with_reducible first | apply o_move | apply o_assign | apply o_faddr0 | apply o_not_d); exact rfl; exact rfl) | ((with_reducible first | apply o_faddr); exact rfl; exact rfl) | ((with_reducible apply gdo_load); first | refine wo_load (h := ?_) | refine wo_loadAll (h := ?_) | refine wo_loadC (h := ?_) | refine wo_ldV (h := ?_) | refine wo_ldF (h := ?_)) | ((with_reducible first | apply o_lss | apply o_gtr | apply o_geq | apply o_neq | apply o_extract); exact rfl; exact rfl; exact rfl) | ((with_reducible apply gdo_store); first | refine wo_store1 (h := ?_) | refine wo_storeA (h := ?_)) | ((with_reducible apply gdo_build); first | refine wo_build (h := ?_)) | ((with_reducible apply o_idx); infer_instance; infer_instance; exact rfl; exact rfl; (first | exact rfl | omega); exact rfl; (first | assumption | omega | decide)) | ((with_reducible first | apply c_seq | apply c_block | apply c_region | apply c_nil | apply c_ret | apply c_exit | apply c_skip)) | ((with_reducible first | apply e_then | apply e_then_ret | apply e_then_exit | apply e_in | apply e_in_ret | apply e_in_same)))
    (first | ((with_reducible apply r_M1); exact aT_; exact uP_; apply res2 Try.results13; exact rV_; exact rV_; intro w' hw) | ((with_reducible apply r_M0); apply res2 Try.results13; exact rV_; exact rV_; intro w' hw))
    exact ⟨rfl, hw.below (show AO _ by exact aO_)⟩
end Go.Proofs.Ytkhaemjoekfhiaa
