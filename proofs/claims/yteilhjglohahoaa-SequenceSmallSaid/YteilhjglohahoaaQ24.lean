/-
  A part of the proofs of this seat: what some of the program's functions compute, shown by walks through their code. Conditions: the hypotheses that each theorem names. (Its blocks of tactics were laid by a small program.)
-/
import Derived.Test.YteilhjglohahoaaQ22
import Derived.Test.YteilhjglohahoaaQL
import Derived.Test.YteilhjglohahoaaSxL
set_option linter.unusedSimpArgs false
set_option linter.unusedVariables false
namespace Go.Proofs.Yteilhjglohahoaa
open Go Go.Sx Go.RowKit
section
variable {P : Program} {n : Nat} {D : List Deferred} {w0 : World} {F : List (Nat × Value)} {L L0 : List Ent} {Q : Exit → Act → World → Prop} {lq : List Oper} {fq mq : Nat} {r : Option Nat} {ops : Array Oper}
variable {d : Tmp} {ty : TypeId} {pos : String} {af : Array Edge} {rest : List Oper}
theorem o_storeT {α : Type} {enc : α → List Value} {t e : TypeId} {k kk m o : Nat} {x y : Operand} {b p : Nat} {v : Value} {xs ys : List α} {z : α} (z' : α) (hys : xs.set m z' = ys) {s vs : List Value} {L' : List Ent} (hS : TS P t kk) (hx : ev F x = some (.pointer (some ⟨b, p, none⟩))) (hy : ev F y = some v)
    (hat : At L b (Ce (xs.flatMap enc ++ s) e)) (hz : xs[m]? = some z) (henc : ∀ x, (enc x).length = k) (hp : p = m * k + o) (hvs : v.cells = vs.toArray) (hlen : vs.length = kk) (h1 : ∀ u ∈ vs, u.oneCell' = true) (ho : o + vs.length ≤ k)
    (he : enc z' = (enc z).take o ++ vs ++ (enc z).drop (o + vs.length)) (hu : Upd L b (Ce (xs.flatMap enc ++ s) e) (Ce (ys.flatMap enc ++ s) e) L')
    (h : St n D w0 F L' (WL r P ops Q rest)) :
    St n D w0 F L (WL r P ops Q (⟨none, .store t x y, ty, pos, af, none⟩ :: rest)) := by
  subst hys
  exact o_storeS z' hS hx hy hat hz henc hp hvs hlen h1 ho he hu h
end
attribute [local irreducible] WL WC WQ WR WB WF QB St Exit.then Exit.inBlock Exit.noGoto bodyPost roundPost beginK YR RG BM Calls B AgainD MeetD
/-! ## the reference's rule for a limit -/
theorem seats_flat : ∀ l : List Seq.Seat, (l.flatMap encSeat).length = l.length * 4
  | [] => rfl
  | s :: l => by rw [List.flatMap_cons, List.length_append, seats_flat l, encSeat_len, List.length_cons]; omega
theorem ow_again {xs ys : List Seq.Seat} {b cap n : Nat} {s : List Value} (h : (xs.flatMap encSeat ++ s).length = cap * 4) (hl : ys.length = n) (hx : xs.length = n) (hc : n ≤ cap ∧ n ≤ 9223372036854775807) :
    OW 76 4 encSeat (.slice (some ⟨b, 0, none⟩) n cap) ys [⟨b, Ce (ys.flatMap encSeat ++ s) 76, true⟩] := by
  subst hl
  refine OW.row ?_ hc
  rw [List.length_append, seats_flat] at h ⊢
  rw [← h, hx]
def rruleφ (limit : Nat) (stops : List Seq.Stop) (caps : List Int) (v : Value) (N : List Ent) : Prop := ∃ a c S r, v = .tuple #[.slice a stops.length c, .bool (decide ((S.length : Int) = (stops.length : Int)))] ∧
  OW 76 4 encSeat (.slice a stops.length c) (Seq.outF S r) N ∧ Seq.rule limit stops caps = S ∧ S.length + r.length = stops.length
set_option maxHeartbeats 4000000 in
theorem rrule_calls {v cv : Value} {stops : List Seq.Stop} {caps : List Int} {limit : Nat} (w : World) (h : SV w 4 encSeat v (stops.map Seq.bare)) (hc : SV w 1 encI cv caps) (hn : stops.length ≤ 1000) (hk : limit ≤ 64) (hcl : caps.length ≤ 64) (hcv : ∀ c ∈ caps, 1 ≤ c ∧ c ≤ 100000) (hvs : ∀ s ∈ stops, 1 ≤ s.vol ∧ s.vol ≤ 10000) :
    Calls Try.prog 34 #[v, cv, .int .i64 limit] w fun e w' => ∃ v' N, e = .returned v' ∧ rruleφ limit stops caps v' N ∧ Rep w w' N ∧ ∀ x ∈ N, x.own = true := by
  obtain ⟨a0, ca, rfl, hca, hop⟩ := h.open
  obtain ⟨a1, cc, rfl, hcc, hcp⟩ := hc.open
  have hml : (stops.map Seq.bare).length = stops.length := List.length_map _
  refine f_enter3 Try.func34 rfl Try.ntmps34 rfl (Rep.start w) ?_
  repeat' (first | (apply o_appH (enc := encSeat); infer_instance; infer_instance; infer_instance; exact rfl; exact encSeat_len; exact encSeat_one; exact rfl; exact rfl; exact rfl; exact ow_fresh; (repeat (first | exact RemL.hd | exact RemL.all | exact RemL.nil | apply RemL.tl | apply RemL.right)); (exact fun w hw => (h.keep hw (by ((focus (repeat (first | exact AO.nil | apply AO.cons | (apply AO.app; assumption)))) <;> done)))); (first | decide | (constructor <;> (try simp only [List.length_cons, List.length_nil]) <;> omega) | (constructor <;> simp <;> omega)); intro a_ cp_ N_ hO_; have oN_ := hO_.own; (try simp only [List.nil_append, List.append_assoc] at hO_); (try simp only [List.append_eq, List.append_assoc, List.cons_append, List.nil_append])) | ((with_reducible first | apply o_move | apply o_assign | apply o_faddr0); exact rfl; exact rfl) | ((with_reducible apply gdo_buildSlice); refine wo_buildSlice (h := fun _ => ?_)) | ((with_reducible first | apply c_seq | apply c_block | apply c_region | apply c_nil | apply c_ret | apply c_exit | apply c_unroll | apply c_skip)) | ((with_reducible first | apply e_then | apply e_then_ret | apply e_then_exit | apply e_in | apply e_in_ret | apply e_in_same)))
  rw [hml] at hO_ ⊢
  apply c_loop (σ := Nat × List Seq.Seat × List Seq.Stop × List Ent) (Fs := fun t => [(10, .int .i64 t.1), (9, .int .i64 t.2.1.length), (8, .slice a_ stops.length cp_), (2, .int .i64 limit), (1, .slice a1 caps.length cc)])
    (Ls := fun t => t.2.2.2) (I := fun t => t.1 ≤ caps.length ∧ Seq.Mid limit stops caps t.2.1 t.2.2.1 t.1 0 0 ∧ OW 76 4 encSeat (.slice a_ stops.length cp_) (Seq.outF t.2.1 t.2.2.1) t.2.2.2) (μ := fun t => caps.length - t.1) (s0 := (0, [], stops, N_))
  · exact ⟨Nat.zero_le _, Seq.Mid.start, hO_⟩
  · (repeat (first | exact FSub.nil | refine FSub.cons rfl ?_))
  · ((try dsimp only); repeat (first | exact HSub.nil rfl | (apply HSub.take; (repeat (first | exact Rem.hd | apply Rem.tl | apply Rem.right))) | exact HSub.same | (apply HSub.takeL; ((focus (repeat (first | exact RemL.hd | exact RemL.all | exact RemL.nil | apply RemL.tl | apply RemL.right))) <;> done)) | apply HSub.drop | (apply HSub.takeL; (focus ((repeat (first | exact RemL.hd | exact RemL.all | exact RemL.nil | apply RemL.tl | apply RemL.right))))) | (apply HSub.takeA; (first | exact RemL.hd | exact RemL.all); ((focus (repeat (first | exact AO.nil | apply AO.cons | (apply AO.app; assumption)))) <;> done)) | (apply HSub.dropL; assumption) | (apply HSub.takeA; (focus ((repeat (first | exact RemL.hd | exact RemL.all | exact RemL.nil | apply RemL.tl | apply RemL.right)))); ((focus (repeat (first | exact AO.nil | apply AO.cons | (apply AO.app; assumption)))) <;> done)) | (apply HSub.nilA; ((focus (repeat (first | exact AO.nil | apply AO.cons | (apply AO.app; assumption)))) <;> done))))
  rintro ⟨i, S, r, N⟩ ⟨hi, hM, hO⟩
  dsimp only at hi hM hO ⊢
  have oN := hO.own
  by_cases hlt : i < caps.length
  case neg =>
    obtain rfl : i = caps.length := by omega
    have hd := hM.done
    have hout := hM.out
    have hol := Seq.outF_len S r
    repeat' (first | ((with_reducible first | apply o_move | apply o_assign | apply o_faddr0); exact rfl; exact rfl) | ((with_reducible first | apply o_lss | apply o_gtr | apply o_eql); exact rfl; exact rfl; exact rfl) | ((with_reducible apply o_len); infer_instance; exact rfl; exact rfl) | ((with_reducible first | apply c_seq | apply c_block | apply c_region | apply c_nil | apply c_ret | apply c_exit | apply c_unroll | apply c_skip)) | ((with_reducible apply c_cond_f); exact rfl; exact fF_) | ((with_reducible first | apply e_then | apply e_then_ret | apply e_then_exit | apply e_in | apply e_in_ret | apply e_in_same)))
    apply r_body; apply res2 Try.results34; exact rV_; exact rV_; intro w' hw
    exact ⟨_, _, rfl, ⟨a_, cp_, S, r, rfl, hO, hd, hout⟩, hw.sub (by ((try dsimp only); repeat (first | exact HSub.nil rfl | (apply HSub.take; (repeat (first | exact Rem.hd | apply Rem.tl | apply Rem.right))) | exact HSub.same | (apply HSub.takeL; ((focus (repeat (first | exact RemL.hd | exact RemL.all | exact RemL.nil | apply RemL.tl | apply RemL.right))) <;> done)) | apply HSub.drop | (apply HSub.takeL; (focus ((repeat (first | exact RemL.hd | exact RemL.all | exact RemL.nil | apply RemL.tl | apply RemL.right))))) | (apply HSub.takeA; (first | exact RemL.hd | exact RemL.all); ((focus (repeat (first | exact AO.nil | apply AO.cons | (apply AO.app; assumption)))) <;> done)) | (apply HSub.dropL; assumption) | (apply HSub.takeA; (focus ((repeat (first | exact RemL.hd | exact RemL.all | exact RemL.nil | apply RemL.tl | apply RemL.right)))); ((focus (repeat (first | exact AO.nil | apply AO.cons | (apply AO.app; assumption)))) <;> done)) | (apply HSub.nilA; ((focus (repeat (first | exact AO.nil | apply AO.cons | (apply AO.app; assumption)))) <;> done))))), oN⟩
  obtain ⟨c, hcx⟩ : ∃ c, caps[i]? = some c := ⟨_, List.getElem?_eq_getElem hlt⟩
  have hcb := hcv c (List.mem_of_getElem? hcx)
  obtain ⟨bc, offc, cs, ec, fzc, rfl, hkc, hpc⟩ := hcp (by omega)
  have k1 := hpc.one hcx rfl
  repeat' (first | ((with_reducible first | apply o_move | apply o_assign | apply o_faddr0); exact rfl; exact rfl) | ((with_reducible first | apply o_lss | apply o_gtr | apply o_eql); exact rfl; exact rfl; exact rfl) | ((with_reducible apply o_len); infer_instance; exact rfl; exact rfl) | ((with_reducible first | apply c_seq | apply c_block | apply c_region | apply c_nil | apply c_ret | apply c_exit | apply c_unroll | apply c_skip)) | ((with_reducible apply c_cond_t); exact rfl; exact tT_) | ((with_reducible first | apply e_then | apply e_then_ret | apply e_then_exit | apply e_in | apply e_in_ret | apply e_in_same)))
  apply c_loop (σ := Nat × Int × List Seq.Seat × List Seq.Stop × List Ent) (Fs := fun t => [(12, .int .i64 t.1), (11, .int .i64 t.2.1), (10, .int .i64 i), (9, .int .i64 t.2.2.1.length), (8, .slice a_ stops.length cp_), (2, .int .i64 limit), (1, .slice (some ⟨bc, offc, none⟩) caps.length cc)])
    (Ls := fun t => t.2.2.2.2) (I := fun t => t.1 ≤ limit ∧ Seq.Mid limit stops caps t.2.2.1 t.2.2.2.1 i t.1 t.2.1 ∧ OW 76 4 encSeat (.slice a_ stops.length cp_) (Seq.outF t.2.2.1 t.2.2.2.1) t.2.2.2.2) (μ := fun t => limit - t.1) (s0 := (0, 0, S, r, N))
  · exact ⟨Nat.zero_le _, hM, hO⟩
  · (repeat (first | exact FSub.nil | refine FSub.cons rfl ?_))
  · ((try dsimp only); repeat (first | exact HSub.nil rfl | (apply HSub.take; (repeat (first | exact Rem.hd | apply Rem.tl | apply Rem.right))) | exact HSub.same | (apply HSub.takeL; ((focus (repeat (first | exact RemL.hd | exact RemL.all | exact RemL.nil | apply RemL.tl | apply RemL.right))) <;> done)) | apply HSub.drop | (apply HSub.takeL; (focus ((repeat (first | exact RemL.hd | exact RemL.all | exact RemL.nil | apply RemL.tl | apply RemL.right))))) | (apply HSub.takeA; (first | exact RemL.hd | exact RemL.all); ((focus (repeat (first | exact AO.nil | apply AO.cons | (apply AO.app; assumption)))) <;> done)) | (apply HSub.dropL; assumption) | (apply HSub.takeA; (focus ((repeat (first | exact RemL.hd | exact RemL.all | exact RemL.nil | apply RemL.tl | apply RemL.right)))); ((focus (repeat (first | exact AO.nil | apply AO.cons | (apply AO.app; assumption)))) <;> done)) | (apply HSub.nilA; ((focus (repeat (first | exact AO.nil | apply AO.cons | (apply AO.app; assumption)))) <;> done))))
  clear hM hO oN
  rintro ⟨k, load, S, r, N⟩ ⟨hkl, hM, hO⟩
  dsimp only at hkl hM hO ⊢
  have oN := hO.own
  have hout := hM.out
  have hbd := hM.bd
  by_cases hk2 : k < limit
  case neg =>
    have hM2 := hM.skip hcx (fun s r' e => by omega)
    repeat' (first | ((with_reducible first | apply o_move | apply o_assign | apply o_faddr0); exact rfl; exact rfl) | ((with_reducible first | apply o_lss | apply o_gtr | apply o_eql); exact rfl; exact rfl; exact rfl) | ((with_reducible apply o_add); exact rfl; exact rfl; exact rfl; (constructor <;> omega)) | ((with_reducible apply o_pick_f); exact rfl; exact fF_; exact rfl; exact rfl) | ((with_reducible apply g_skip); exact rfl; exact gG_; exact rfl) | ((with_reducible first | apply c_seq | apply c_block | apply c_region | apply c_nil | apply c_ret | apply c_exit | apply c_unroll | apply c_skip)) | ((with_reducible apply c_cond_f); exact rfl; exact fF_) | ((with_reducible first | apply e_then | apply e_then_ret | apply e_then_exit | apply e_in | apply e_in_ret | apply e_in_same)))
    refine l_again (i + 1, S, r, N) ⟨by dsimp only; omega, hM2, hO⟩ (by dsimp only; omega) ?_ ?_
    · (repeat (first | exact FSub.nil | refine FSub.cons rfl ?_))
    · ((try dsimp only); repeat (first | exact HSub.nil rfl | (apply HSub.take; (repeat (first | exact Rem.hd | apply Rem.tl | apply Rem.right))) | exact HSub.same | (apply HSub.takeL; ((focus (repeat (first | exact RemL.hd | exact RemL.all | exact RemL.nil | apply RemL.tl | apply RemL.right))) <;> done)) | apply HSub.drop | (apply HSub.takeL; (focus ((repeat (first | exact RemL.hd | exact RemL.all | exact RemL.nil | apply RemL.tl | apply RemL.right))))) | (apply HSub.takeA; (first | exact RemL.hd | exact RemL.all); ((focus (repeat (first | exact AO.nil | apply AO.cons | (apply AO.app; assumption)))) <;> done)) | (apply HSub.dropL; assumption) | (apply HSub.takeA; (focus ((repeat (first | exact RemL.hd | exact RemL.all | exact RemL.nil | apply RemL.tl | apply RemL.right)))); ((focus (repeat (first | exact AO.nil | apply AO.cons | (apply AO.app; assumption)))) <;> done)) | (apply HSub.nilA; ((focus (repeat (first | exact AO.nil | apply AO.cons | (apply AO.app; assumption)))) <;> done))))
  cases r with
  | nil =>
    have hM2 := hM.skip hcx (fun s r' e => by cases e)
    rw [List.length_nil] at hout
    repeat' (first | ((with_reducible first | apply o_move | apply o_assign | apply o_faddr0); exact rfl; exact rfl) | ((with_reducible first | apply o_lss | apply o_gtr | apply o_eql); exact rfl; exact rfl; exact rfl) | ((with_reducible apply o_add); exact rfl; exact rfl; exact rfl; (constructor <;> omega)) | ((with_reducible apply o_pick_t); exact rfl; exact tT_; exact rfl; exact rfl) | ((with_reducible apply o_len); infer_instance; exact rfl; exact rfl) | ((with_reducible first | apply g_run | apply g_skip_none); exact rfl; exact gG_) | ((with_reducible first | apply c_seq | apply c_block | apply c_region | apply c_nil | apply c_ret | apply c_exit | apply c_unroll | apply c_skip)) | ((with_reducible apply c_cond_f); exact rfl; exact fF_) | ((with_reducible first | apply e_then | apply e_then_ret | apply e_then_exit | apply e_in | apply e_in_ret | apply e_in_same)))
    refine l_again (i + 1, S, [], N) ⟨by dsimp only; omega, hM2, hO⟩ (by dsimp only; omega) ?_ ?_
    · (repeat (first | exact FSub.nil | refine FSub.cons rfl ?_))
    · ((try dsimp only); repeat (first | exact HSub.nil rfl | (apply HSub.take; (repeat (first | exact Rem.hd | apply Rem.tl | apply Rem.right))) | exact HSub.same | (apply HSub.takeL; ((focus (repeat (first | exact RemL.hd | exact RemL.all | exact RemL.nil | apply RemL.tl | apply RemL.right))) <;> done)) | apply HSub.drop | (apply HSub.takeL; (focus ((repeat (first | exact RemL.hd | exact RemL.all | exact RemL.nil | apply RemL.tl | apply RemL.right))))) | (apply HSub.takeA; (first | exact RemL.hd | exact RemL.all); ((focus (repeat (first | exact AO.nil | apply AO.cons | (apply AO.app; assumption)))) <;> done)) | (apply HSub.dropL; assumption) | (apply HSub.takeA; (focus ((repeat (first | exact RemL.hd | exact RemL.all | exact RemL.nil | apply RemL.tl | apply RemL.right)))); ((focus (repeat (first | exact AO.nil | apply AO.cons | (apply AO.app; assumption)))) <;> done)) | (apply HSub.nilA; ((focus (repeat (first | exact AO.nil | apply AO.cons | (apply AO.app; assumption)))) <;> done))))
  | cons s r' =>
    rw [List.length_cons] at hout
    have hsv := hvs s (hM.suf s List.mem_cons_self)
    have hol := Seq.outF_len S (s :: r')
    rw [List.length_cons] at hol
    obtain ⟨ax, cx, ex, hcx2, hop2⟩ := hO.open
    obtain ⟨ea, -, ec⟩ : a_ = ax ∧ stops.length = (Seq.outF S (s :: r')).length ∧ cp_ = cx := by simpa using ex
    subst ea ec
    obtain ⟨b, z, rfl, rfl, hz⟩ := hop2 (by omega)
    obtain ⟨X0, hX0⟩ : ∃ X, Seq.outF S (s :: r') = X := ⟨_, rfl⟩
    have hg0 : (Seq.outF S (s :: r'))[S.length]? = some ⟨s.id, s.vol, 0, 0⟩ := Seq.outF_get S s r'
    obtain ⟨X1, hX1⟩ : ∃ X, X0.set S.length (⟨s.id, s.vol, k, 0⟩ : Seq.Seat) = X := ⟨_, rfl⟩
    have hg1 := Seq.outF_get2 S s r' k
    have hX2 := Seq.outF_set2 S s r' k i
    rw [hX0] at hg0 hg1 hX2 hz hol hcx2
    rw [hX1] at hg1 hX2
    have q1 : ∀ j u, ([.int .i64 s.id, .int .i64 s.vol, .int .i64 0, .int .i64 0] : List Value)[j]? = some u → (X0.flatMap encSeat ++ z).toArray[0 + S.length * 4 + j]? = some u := (Pat.flat encSeat_len X0 z).get hg0
    by_cases hfit : load + s.vol ≤ c
    · have hM2 := hM.put hcx hk2 hfit (by omega) hcb.2
      have hlen2 : (S ++ [(⟨s.id, s.vol, k, i⟩ : Seq.Seat)]).length = S.length + 1 := by simp
      have hol2 := Seq.outF_len (S ++ [(⟨s.id, s.vol, k, i⟩ : Seq.Seat)]) r'
      rw [hlen2] at hol2
      have hO2 := ow_again (b := b) (cap := cp_) (n := stops.length) (ys := Seq.outF (S ++ [(⟨s.id, s.vol, k, i⟩ : Seq.Seat)]) r') hz (by omega) (by omega) ⟨by omega, by omega⟩
      simp only [hX0]
      as_aux_lemma =>
        repeat' (first | (apply o_storeT (enc := encSeat) (k := 4) (m := (S.length)) (o := 2) (xs := (X0)) (⟨s.id, s.vol, k, 0⟩) (hX1); infer_instance; exact rfl; exact rfl; ((focus (repeat (first | assumption | exact At.hd | refine At.tl ?_ | (refine At.left ?_; assumption) | refine At.right ?_))) <;> done); exact (hg0); exact encSeat_len; omega; exact rfl; exact rfl; (intro u hu; simp at hu; first | (subst hu; rfl) | (rcases hu with rfl | rfl <;> rfl) | (rcases hu with rfl | rfl | rfl <;> rfl) | (rcases hu with rfl | rfl | rfl | rfl <;> rfl)); (first | decide | exact Nat.le_refl _ | (simp only [List.length_cons, List.length_nil]; decide)); exact rfl; (repeat (first | exact Upd.hd | apply Upd.tl | apply Upd.right))) | (apply o_storeT (enc := encSeat) (k := 4) (m := (S.length)) (o := 3) (xs := (X1)) (⟨s.id, s.vol, k, i⟩) (hX2); infer_instance; exact rfl; exact rfl; ((focus (repeat (first | assumption | exact At.hd | refine At.tl ?_ | (refine At.left ?_; assumption) | refine At.right ?_))) <;> done); exact (hg1); exact encSeat_len; omega; exact rfl; exact rfl; (intro u hu; simp at hu; first | (subst hu; rfl) | (rcases hu with rfl | rfl <;> rfl) | (rcases hu with rfl | rfl | rfl <;> rfl) | (rcases hu with rfl | rfl | rfl | rfl <;> rfl)); (first | decide | exact Nat.le_refl _ | (simp only [List.length_cons, List.length_nil]; decide)); exact rfl; (repeat (first | exact Upd.hd | apply Upd.tl | apply Upd.right))) | ((with_reducible first | apply o_move | apply o_assign | apply o_faddr0); exact rfl; exact rfl) | ((with_reducible apply o_faddr); exact rfl; exact rfl) | ((with_reducible apply gdo_load); first | refine wo_load (h := ?_) | refine wo_loadAll (h := ?_) | refine wo_loadC (h := ?_) | refine wo_ldV (h := ?_) | refine wo_ldF (h := ?_)) | ((with_reducible first | apply o_lss | apply o_gtr | apply o_eql); exact rfl; exact rfl; exact rfl) | ((with_reducible apply o_add); exact rfl; exact rfl; exact rfl; (constructor <;> omega)) | ((with_reducible apply o_pick_t); exact rfl; exact tT_; exact rfl; exact rfl) | ((with_reducible apply o_len); infer_instance; exact rfl; exact rfl) | ((with_reducible apply o_idx); infer_instance; infer_instance; exact rfl; exact rfl; (first | exact rfl | omega); exact rfl; (first | assumption | omega | decide)) | ((with_reducible first | apply g_run | apply g_skip_none); exact rfl; exact gG_) | ((with_reducible first | apply c_seq | apply c_block | apply c_region | apply c_nil | apply c_ret | apply c_exit | apply c_unroll | apply c_skip)) | ((with_reducible apply c_cond_t); exact rfl; exact tT_) | ((with_reducible apply c_cond_f); exact rfl; exact fF_) | ((with_reducible first | apply e_then | apply e_then_ret | apply e_then_exit | apply e_in | apply e_in_ret | apply e_in_same)))
        refine l_again (k + 1, load + s.vol, S ++ [⟨s.id, s.vol, k, i⟩], r', _) ⟨by dsimp only; omega, hM2, hO2⟩ (by dsimp only; omega) ?_ ?_
        · dsimp only; rw [hlen2]; (repeat (first | exact FSub.nil | refine FSub.cons rfl ?_))
        · ((try dsimp only); repeat (first | exact HSub.nil rfl | (apply HSub.take; (repeat (first | exact Rem.hd | apply Rem.tl | apply Rem.right))) | exact HSub.same | (apply HSub.takeL; ((focus (repeat (first | exact RemL.hd | exact RemL.all | exact RemL.nil | apply RemL.tl | apply RemL.right))) <;> done)) | apply HSub.drop | (apply HSub.takeL; (focus ((repeat (first | exact RemL.hd | exact RemL.all | exact RemL.nil | apply RemL.tl | apply RemL.right))))) | (apply HSub.takeA; (first | exact RemL.hd | exact RemL.all); ((focus (repeat (first | exact AO.nil | apply AO.cons | (apply AO.app; assumption)))) <;> done)) | (apply HSub.dropL; assumption) | (apply HSub.takeA; (focus ((repeat (first | exact RemL.hd | exact RemL.all | exact RemL.nil | apply RemL.tl | apply RemL.right)))); ((focus (repeat (first | exact AO.nil | apply AO.cons | (apply AO.app; assumption)))) <;> done)) | (apply HSub.nilA; ((focus (repeat (first | exact AO.nil | apply AO.cons | (apply AO.app; assumption)))) <;> done))))
    · have hM2 := hM.skip hcx (fun s' r'' e => by cases e; omega)
      as_aux_lemma =>
        simp only [hX0]
        repeat' (first | ((with_reducible first | apply o_move | apply o_assign | apply o_faddr0); exact rfl; exact rfl) | ((with_reducible apply o_faddr); exact rfl; exact rfl) | ((with_reducible apply gdo_load); first | refine wo_load (h := ?_) | refine wo_loadAll (h := ?_) | refine wo_loadC (h := ?_) | refine wo_ldV (h := ?_) | refine wo_ldF (h := ?_)) | ((with_reducible first | apply o_lss | apply o_gtr | apply o_eql); exact rfl; exact rfl; exact rfl) | ((with_reducible apply o_add); exact rfl; exact rfl; exact rfl; (constructor <;> omega)) | ((with_reducible apply o_pick_t); exact rfl; exact tT_; exact rfl; exact rfl) | ((with_reducible apply o_len); infer_instance; exact rfl; exact rfl) | ((with_reducible apply o_idx); infer_instance; infer_instance; exact rfl; exact rfl; (first | exact rfl | omega); exact rfl; (first | assumption | omega | decide)) | ((with_reducible first | apply g_run | apply g_skip_none); exact rfl; exact gG_) | ((with_reducible first | apply c_seq | apply c_block | apply c_region | apply c_nil | apply c_ret | apply c_exit | apply c_unroll | apply c_skip)) | ((with_reducible apply c_cond_t); exact rfl; exact tT_) | ((with_reducible first | apply e_then | apply e_then_ret | apply e_then_exit | apply e_in | apply e_in_ret | apply e_in_same)) | ((with_reducible apply e_in_other); exact rfl))
        refine l_again (i + 1, S, s :: r', _) ⟨by dsimp only; omega, hM2, hO⟩ (by dsimp only; omega) ?_ ?_
        · (repeat (first | exact FSub.nil | refine FSub.cons rfl ?_))
        · simp only [hX0]; ((try dsimp only); repeat (first | exact HSub.nil rfl | (apply HSub.take; (repeat (first | exact Rem.hd | apply Rem.tl | apply Rem.right))) | exact HSub.same | (apply HSub.takeL; ((focus (repeat (first | exact RemL.hd | exact RemL.all | exact RemL.nil | apply RemL.tl | apply RemL.right))) <;> done)) | apply HSub.drop | (apply HSub.takeL; (focus ((repeat (first | exact RemL.hd | exact RemL.all | exact RemL.nil | apply RemL.tl | apply RemL.right))))) | (apply HSub.takeA; (first | exact RemL.hd | exact RemL.all); ((focus (repeat (first | exact AO.nil | apply AO.cons | (apply AO.app; assumption)))) <;> done)) | (apply HSub.dropL; assumption) | (apply HSub.takeA; (focus ((repeat (first | exact RemL.hd | exact RemL.all | exact RemL.nil | apply RemL.tl | apply RemL.right)))); ((focus (repeat (first | exact AO.nil | apply AO.cons | (apply AO.app; assumption)))) <;> done)) | (apply HSub.nilA; ((focus (repeat (first | exact AO.nil | apply AO.cons | (apply AO.app; assumption)))) <;> done))))
end Go.Proofs.Yteilhjglohahoaa
