/-
  A part of the proofs of this seat: what some of the program's functions compute, shown by walks through their code. Conditions: the hypotheses that each theorem names. (Its blocks of tactics were laid by a small program.)
-/
import Derived.Test.YtlahifpnncekgaaU6
import Derived.Test.YtlahifpnncekgaaSxL
set_option linter.unusedSimpArgs false
set_option linter.unusedVariables false
namespace Go.Sx.Srt
open Go.Sx.Seq (findF)
/-- What seat returns. -/
def seatI (p : Seq.Plan) (stop : Int) : Int := match findF p.seats stop with
  | some _ => (seatIx p stop : Int)
  | none => -1
theorem seatI_at {p : Seq.Plan} {stop : Int} {i : Nat} {t : Seq.Seat} (h : p.seats[i]? = some t) (ht : t.stop = stop) (hb : ∀ x ∈ p.seats.take i, x.stop ≠ stop) : seatI p stop = i := by
  have hlt := (List.getElem?_eq_some_iff.1 h).1
  have hix : seatIx p stop = i := by
    unfold seatIx
    rw [List.findIdx_eq hlt]
    refine ⟨?_, fun j hj => ?_⟩
    · have := (List.getElem?_eq_some_iff.1 h).2
      rw [this]; simpa using ht
    · have hm : p.seats[j] ∈ p.seats.take i := by
        rw [List.mem_take_iff_getElem]
        exact ⟨j, by omega, rfl⟩
      have := hb _ hm
      simpa using this
  have hf : findF p.seats stop = some t := by
    cases hf : findF p.seats stop with
    | none =>
      unfold findF at hf
      have := List.find?_eq_none.1 hf t (List.mem_of_getElem? h)
      simp [ht] at this
    | some t' =>
      have := seatIx_get hf
      rw [hix, h] at this
      rw [← this]
  unfold seatI
  rw [hf, hix]
theorem seatI_none {p : Seq.Plan} {stop : Int} (hb : ∀ x ∈ p.seats, x.stop ≠ stop) : seatI p stop = -1 := by
  unfold seatI
  have : findF p.seats stop = none := by
    unfold findF
    rw [List.find?_eq_none]
    intro x hx
    simpa using hb x hx
  rw [this]
/-- The capacities, some of them greater already. -/
def capU (l : List Int) (i : Nat) : List Int := (l.take i).map (fun c => c + 4) ++ l.drop i
theorem capU_at {l : List Int} {i : Nat} {x : Int} (h : l[i]? = some x) : (capU l i)[i]? = some x := by
  have hlt := (List.getElem?_eq_some_iff.1 h).1
  unfold capU
  rw [List.getElem?_append_right (by simp; omega)]
  simp [Nat.min_eq_left (Nat.le_of_lt hlt), h]
theorem capU_set {l : List Int} {i : Nat} {x : Int} (h : l[i]? = some x) : (capU l i).set i (x + 4) = capU l (i + 1) := by
  have hlt := (List.getElem?_eq_some_iff.1 h).1
  unfold capU
  rw [List.set_append_right _ _ (by simp; omega), take_one h, List.map_append, List.append_assoc]
  congr 1
  simp only [List.length_map, List.length_take, Nat.min_eq_left (Nat.le_of_lt hlt), Nat.sub_self]
  rw [drop_one h]
  rfl
where
  take_one {l : List Int} {i : Nat} {x : Int} (h : l[i]? = some x) : l.take (i + 1) = l.take i ++ [x] := by rw [List.take_add_one, h]; rfl
  drop_one {l : List Int} {i : Nat} {x : Int} (h : l[i]? = some x) : l.drop i = x :: l.drop (i + 1) := by
    obtain ⟨hlt, rfl⟩ := List.getElem?_eq_some_iff.1 h
    exact (List.getElem_cons_drop (h := hlt)).symm
theorem capU_len (l : List Int) (i : Nat) (h : i ≤ l.length) : (capU l i).length = l.length := by
  unfold capU; simp; omega
theorem capU_all (l : List Int) : capU l l.length = l.map fun c => c + 4 := by simp [capU]
end Go.Sx.Srt
namespace Go.Proofs.Ytlahifpnncekgaa
open Go Go.Sx Go.RowKit
section
variable {P : Program} {n : Nat} {D : List Deferred} {w0 : World} {F : List (Nat × Value)} {L L0 : List Ent} {lq : List Oper} {fq mq : Nat} {Q : Exit → Act → World → Prop}
variable {d : Tmp} {ty : TypeId} {pos : String} {af : Array Edge} {rest : List Oper}
theorem b_remE {x y : Operand} {m l v : Int} {k : IntKind} {t u : TypeId} (hx : ev F x = some (.int k m)) (hy : ev F y = some (.int k l)) (e : m % l = v) (hr : 0 ≤ m ∧ 0 < l) (hd : Nat.ble (d + 1) n = true)
    (h : St n D w0 ((d, .int k v) :: F) L (WB P lq w0 L0 Q fq mq)) : St n D w0 F L (WF P lq w0 L0 Q fq mq (⟨some d, .binOp .rem t x y u, ty, pos, af, none⟩)) :=
  b_rem_w hx hy hd (by omega) (by rw [Int.tmod_eq_emod_of_nonneg hr.1, e]; exact h)
end
attribute [local irreducible] WL WC WQ WR WB WF QB St Exit.then Exit.inBlock Exit.noGoto bodyPost roundPost beginK YR RG BM Calls B AgainD MeetD
/-! ## seat, built -/
set_option maxHeartbeats 4000000 in
theorem seat_calls {pv : Value} {p : Seq.Plan} {x : Int} (w : World) (h : PV w pv p) : Calls Try.prog 19 #[pv, .int .i64 x] w fun e w' => e = .returned (.int .i64 (Srt.seatI p x)) ∧ Below w.heap.size w w' := by
  obtain ⟨a1, c1, a2, c2, a3, c3, a4, c4, rfl, h1, h2, h3, h4⟩ := h.open
  obtain ⟨_, _, e2, hc2, hop2⟩ := h2.open
  cases e2
  refine f_enter2 Try.func19 rfl Try.ntmps19 rfl (Rep.start w) ?_
  repeat' (first | ((with_reducible first | apply o_move | apply o_assign | apply o_faddr0); exact rfl; exact rfl) | ((with_reducible apply gdo_load); first | refine wo_load (h := ?_) | refine wo_loadAll (h := ?_) | refine wo_loadC (h := ?_) | refine wo_ldV (h := ?_) | refine wo_ldF (h := ?_)) | ((with_reducible apply o_box); exact rfl; exact rfl; exact rfl; intro _) | ((with_reducible apply o_len); infer_instance; exact rfl; exact rfl) | ((with_reducible first | apply c_seq | apply c_block | apply c_region | apply c_nil | apply c_ret | apply c_exit | apply c_unroll | apply c_skip)) | ((with_reducible first | apply e_then | apply e_then_ret | apply e_then_exit | apply e_in | apply e_in_ret | apply e_in_same)))
  rename_i bp
  apply c_loop (σ := Nat) (Fs := fun i => [(10, .int .i64 i), (9, .int .i64 p.seats.length), (8, .slice a2 p.seats.length c2), (1, .int .i64 x)])
    (Ls := fun i => []) (I := fun i => i ≤ p.seats.length ∧ ∀ t ∈ p.seats.take i, t.stop ≠ x) (μ := fun i => p.seats.length - i) (s0 := 0)
  · exact ⟨Nat.zero_le _, by simp⟩
  · (repeat (first | exact FSub.nil | refine FSub.cons rfl ?_))
  · ((try dsimp only); repeat (first | exact HSub.nil rfl | (apply HSub.take; (repeat (first | exact Rem.hd | apply Rem.tl | apply Rem.right))) | exact HSub.same | (apply HSub.takeL; ((focus (repeat (first | exact RemL.hd | exact RemL.all | exact RemL.nil | apply RemL.tl | apply RemL.right))) <;> done)) | apply HSub.drop | (apply HSub.takeL; (focus ((repeat (first | exact RemL.hd | exact RemL.all | exact RemL.nil | apply RemL.tl | apply RemL.right))))) | (apply HSub.takeA; (first | exact RemL.hd | exact RemL.all); ((focus (repeat (first | exact AO.nil | apply AO.cons | (apply AO.app; assumption)))) <;> done)) | (apply HSub.dropL; assumption) | (apply HSub.takeA; (focus ((repeat (first | exact RemL.hd | exact RemL.all | exact RemL.nil | apply RemL.tl | apply RemL.right)))); ((focus (repeat (first | exact AO.nil | apply AO.cons | (apply AO.app; assumption)))) <;> done)) | (apply HSub.nilA; ((focus (repeat (first | exact AO.nil | apply AO.cons | (apply AO.app; assumption)))) <;> done))))
  rintro i ⟨hi, hf⟩
  by_cases hlt : i < p.seats.length
  · obtain ⟨t, hx⟩ : ∃ t, p.seats[i]? = some t := ⟨_, List.getElem?_eq_getElem hlt⟩
    obtain ⟨b, off, cc, e, fz, rfl, hk, hp⟩ := hop2 (by omega)
    have g1 := hp.get hx
    by_cases hst : t.stop = x
    · rw [Srt.seatI_at hx hst hf]
      repeat' (first | ((with_reducible first | apply o_move | apply o_assign | apply o_faddr0); exact rfl; exact rfl) | ((with_reducible apply gdo_load); first | refine wo_load (h := ?_) | refine wo_loadAll (h := ?_) | refine wo_loadC (h := ?_) | refine wo_ldV (h := ?_) | refine wo_ldF (h := ?_)) | ((with_reducible first | apply o_lss | apply o_eql); exact rfl; exact rfl; exact rfl) | ((with_reducible apply o_alloc); exact rfl; intro _) | ((with_reducible apply gdo_store); first | refine wo_store1 (h := ?_) | refine wo_storeA (h := ?_)) | ((with_reducible apply o_idx); infer_instance; infer_instance; exact rfl; exact rfl; (first | exact rfl | omega); exact rfl; (first | assumption | omega | decide)) | ((with_reducible first | apply c_seq | apply c_block | apply c_region | apply c_nil | apply c_ret | apply c_exit | apply c_unroll | apply c_skip)) | ((with_reducible apply c_cond_t); exact rfl; exact tT_) | ((with_reducible first | apply e_then | apply e_then_ret | apply e_then_exit | apply e_in | apply e_in_ret | apply e_in_same)))
      apply r_body; apply res1 Try.results19; exact rV_; intro w' hw
      exact ⟨rfl, hw.below (by simp)⟩
    · repeat' (first | ((with_reducible first | apply o_move | apply o_assign | apply o_faddr0); exact rfl; exact rfl) | ((with_reducible apply gdo_load); first | refine wo_load (h := ?_) | refine wo_loadAll (h := ?_) | refine wo_loadC (h := ?_) | refine wo_ldV (h := ?_) | refine wo_ldF (h := ?_)) | ((with_reducible first | apply o_lss | apply o_eql); exact rfl; exact rfl; exact rfl) | ((with_reducible apply o_add); exact rfl; exact rfl; exact rfl; (constructor <;> omega)) | ((with_reducible apply o_alloc); exact rfl; intro _) | ((with_reducible apply gdo_store); first | refine wo_store1 (h := ?_) | refine wo_storeA (h := ?_)) | ((with_reducible apply o_idx); infer_instance; infer_instance; exact rfl; exact rfl; (first | exact rfl | omega); exact rfl; (first | assumption | omega | decide)) | ((with_reducible first | apply c_seq | apply c_block | apply c_region | apply c_nil | apply c_ret | apply c_exit | apply c_unroll | apply c_skip)) | ((with_reducible apply c_cond_t); exact rfl; exact tT_) | ((with_reducible apply c_cond_f); exact rfl; exact fF_) | ((with_reducible first | apply e_then | apply e_then_ret | apply e_then_exit | apply e_in | apply e_in_ret | apply e_in_same)))
      refine l_again (i + 1) ⟨by omega, take_all hx hf hst⟩ (by omega) ?_ ?_
      · (repeat (first | exact FSub.nil | refine FSub.cons rfl ?_))
      · ((try dsimp only); repeat (first | exact HSub.nil rfl | (apply HSub.take; (repeat (first | exact Rem.hd | apply Rem.tl | apply Rem.right))) | exact HSub.same | (apply HSub.takeL; ((focus (repeat (first | exact RemL.hd | exact RemL.all | exact RemL.nil | apply RemL.tl | apply RemL.right))) <;> done)) | apply HSub.drop | (apply HSub.takeL; (focus ((repeat (first | exact RemL.hd | exact RemL.all | exact RemL.nil | apply RemL.tl | apply RemL.right))))) | (apply HSub.takeA; (first | exact RemL.hd | exact RemL.all); ((focus (repeat (first | exact AO.nil | apply AO.cons | (apply AO.app; assumption)))) <;> done)) | (apply HSub.dropL; assumption) | (apply HSub.takeA; (focus ((repeat (first | exact RemL.hd | exact RemL.all | exact RemL.nil | apply RemL.tl | apply RemL.right)))); ((focus (repeat (first | exact AO.nil | apply AO.cons | (apply AO.app; assumption)))) <;> done)) | (apply HSub.nilA; ((focus (repeat (first | exact AO.nil | apply AO.cons | (apply AO.app; assumption)))) <;> done))))
  · rw [List.take_of_length_le (by omega)] at hf
    rw [Srt.seatI_none hf]
    repeat' (first | ((with_reducible first | apply o_move | apply o_assign | apply o_faddr0); exact rfl; exact rfl) | ((with_reducible first | apply o_lss | apply o_eql); exact rfl; exact rfl; exact rfl) | ((with_reducible first | apply c_seq | apply c_block | apply c_region | apply c_nil | apply c_ret | apply c_exit | apply c_unroll | apply c_skip)) | ((with_reducible apply c_cond_f); exact rfl; exact fF_) | ((with_reducible first | apply e_then | apply e_then_ret | apply e_then_exit | apply e_in | apply e_in_ret | apply e_in_same)))
    apply r_body; apply res1 Try.results19; exact rV_; intro w' hw
    exact ⟨rfl, hw.below (by simp)⟩
end Go.Proofs.Ytlahifpnncekgaa
