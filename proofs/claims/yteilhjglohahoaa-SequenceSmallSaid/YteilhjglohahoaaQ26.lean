/-
  A part of the proofs of this seat: what some of the program's functions compute, shown by walks through their code. Conditions: the hypotheses that each theorem names. (Its blocks of tactics were laid by a small program.)
-/
import Derived.Test.YteilhjglohahoaaQ22
import Derived.Test.YteilhjglohahoaaQN
import Derived.Test.YteilhjglohahoaaQ9
import Derived.Test.YteilhjglohahoaaSxL
set_option linter.unusedSimpArgs false
set_option linter.unusedVariables false
namespace Go.Proofs.Yteilhjglohahoaa
open Go Go.Sx Go.RowKit
attribute [local irreducible] WL WC WQ WR WB WF QB St Exit.then Exit.inBlock Exit.noGoto bodyPost roundPost beginK YR RG BM Calls B AgainD MeetD
/-! ## the reference's Sort -/
theorem rfind_at {a1 a2 a3 a4 : Option Addr} {n1 n3 n4 c1 c2 c3 c4 k : Nat} {l : List Seq.Seat} {s : Seq.Seat} (hn : (l.map Seq.Seat.stop).Nodup) (hk : l[k]? = some s) (w : World) (h : SV w 4 encSeat (.slice a2 l.length c2) l) :
    Calls Try.prog 29 #[.agg #[.slice a1 n1 c1, .slice a2 l.length c2, .slice a3 n3 c3, .slice a4 n4 c4], .int .i64 s.stop] w fun e w' => e = .returned (.int .i64 k) ∧ Below w.heap.size w w' := by
  have e : Seq.atF 0 (l.map Seq.Seat.asStop) s.stop = k := by
    have := Seq.atF_at (l := l.map Seq.Seat.asStop) (i := 0) (k := k) (t := s.asStop) (by rw [List.map_map]; exact hn) (by rw [List.getElem?_map, hk]; rfl)
    simpa [Seq.Seat.asStop] using this
  have := rfind_calls (a1 := a1) (a3 := a3) (a4 := a4) (n1 := n1) (n3 := n3) (n4 := n4) (c1 := c1) (c3 := c3) (c4 := c4) (x := s.stop) w h
  rwa [e] at this
/-- A row of the first pass, up to an item. -/
def firstRow (p : Seq.Plan) (items : List Int) (k i : Nat) : List Nat := (List.range i).filter fun j => Seq.keyF p.seats items Seq.Seat.first j = k
theorem firstRow_succ (p : Seq.Plan) (items : List Int) (k i : Nat) : firstRow p items k (i + 1) = firstRow p items k i ++ if Seq.keyF p.seats items Seq.Seat.first i = k then [i] else [] := by
  unfold firstRow
  rw [List.range_succ, List.filter_append]
  congr 1
  by_cases h : Seq.keyF p.seats items Seq.Seat.first i = k <;> simp [h]
theorem firstRow_len (p : Seq.Plan) (items : List Int) (k i : Nat) : (firstRow p items k i).length ≤ i := Nat.le_trans (List.length_filter_le ..) (by simp)
def stopRow (items : List Int) (x : Int) (i : Nat) : List Nat := (List.range i).filter fun j => items[j]? = some x
theorem stopRow_succ {items : List Int} {x y : Int} {i : Nat} (hy : items[i]? = some y) : stopRow items x (i + 1) = stopRow items x i ++ if y = x then [i] else [] := by
  unfold stopRow
  rw [List.range_succ, List.filter_append]
  congr 1
  by_cases h : y = x <;> simp [h, hy]
theorem stopRow_len (items : List Int) (x : Int) (i : Nat) : (stopRow items x i).length ≤ i := Nat.le_trans (List.length_filter_le ..) (by simp)
theorem secR_snoc (l : List Seq.Seat) (S : Seq.Seat) (items : List Int) (k : Nat) : Seq.secR (l ++ [S]) items k = Seq.secR l items k ++ if S.second = k then stopRow items S.stop items.length else [] := by
  unfold Seq.secR
  rw [List.filter_append, List.flatMap_append]
  congr 1
  by_cases h : S.second = k
  · simp [h, Seq.ofStop, stopRow]
  · simp [h]
theorem secR_len (items : List Int) (k : Nat) : ∀ l : List Seq.Seat, (Seq.secR l items k).length ≤ l.length * items.length
  | [] => by simp [Seq.secR]
  | s :: l => by
    have ih := secR_len items k l
    have h1 := stopRow_len items s.stop items.length
    have e : (Seq.secR (s :: l) items k).length ≤ items.length + (Seq.secR l items k).length := by
      unfold Seq.secR
      by_cases h : s.second = k
      · rw [List.filter_cons_of_pos (by simpa using h), List.flatMap_cons, List.length_append]
        have : (Seq.ofStop items s.stop).length ≤ items.length := h1
        omega
      · rw [List.filter_cons_of_neg (by simpa using h)]
        omega
    rw [List.length_cons, Nat.succ_mul]
    omega
structure RSt where
  k : Nat
  af : Option Addr
  cf : Nat
  sf : List SD
  nf : List Ent
  mf : List Ent
  as2 : Option Addr
  cs2 : Nat
  ss2 : List SD
  ns2 : List Ent
  ms2 : List Ent
  ao : Option Addr
  co : Nat
  no : List Ent
def rowsF (p : Seq.Plan) (items : List Int) (k : Nat) : List (List Nat) := (List.range k).map fun k => firstRow p items k items.length
def rowsS (p : Seq.Plan) (items : List Int) (k : Nat) : List (List Nat) := (List.range k).map (Seq.secR p.seats items)
theorem rowsF_succ (p : Seq.Plan) (items : List Int) (k : Nat) : rowsF p items (k + 1) = rowsF p items k ++ [firstRow p items k items.length] := by simp [rowsF, List.range_succ]
theorem rowsS_succ (p : Seq.Plan) (items : List Int) (k : Nat) : rowsS p items (k + 1) = rowsS p items k ++ [Seq.secR p.seats items k] := by simp [rowsS, List.range_succ]
theorem count_take {l : List Int} {i : Nat} {x : Int} (y : Int) (hx : l[i]? = some x) : (l.take (i + 1)).count y = (l.take i).count y + (if x = y then 1 else 0) := by
  rw [List.take_add_one, hx, List.count_append]
  congr 1
  by_cases h : x = y <;> simp [h]
theorem rowsS_flat (p : Seq.Plan) (items : List Int) : ∀ k, (rowsS p items k).flatten.length ≤ k * (p.seats.length * items.length)
  | 0 => by simp [rowsS]
  | k + 1 => by
    have ih := rowsS_flat p items k
    have h1 := secR_len items k p.seats
    rw [rowsS_succ, List.flatten_append, List.length_append, Nat.succ_mul]
    simp only [List.flatten_cons, List.flatten_nil, List.append_nil]
    omega
set_option maxHeartbeats 4000000 in
theorem rsort_calls {pv iv : Value} {p : Seq.Plan} {items : List Int} (hchk : Seq.checkF p = (0, 0)) (hR : Seq.Runs p.seats p.caps.length items) (hcnt : ∀ s ∈ p.seats, (items.count s.stop : Int) ≤ s.vol) (hil : items.length ≤ 2000) (hsl : p.seats.length ≤ 1000) (hcl : p.caps.length ≤ 64) (w : World) (hp : PV w pv p) (hi : SV w 1 encI iv items) :
    Calls Try.prog 31 #[pv, iv] w fun e w' => ∃ v N, e = .returned v ∧ sortψ (Seq.runF p items) 0 v N ∧ Rep w w' N ∧ ∀ x ∈ N, x.own = true := by
  obtain ⟨a1, c1, a2, c2, a3, c3, a4, c4, rfl, h1, h2, h3, h4⟩ := hp.open
  obtain ⟨ai, ci, rfl, hci, hopi⟩ := hi.open
  obtain ⟨_, _, e2, hc2, hop2⟩ := h2.open
  cases e2
  refine f_enter2 Try.func31 rfl Try.ntmps31 rfl (Rep.start w) ?_
  repeat' (first | ((first | ((with_reducible apply o_call_pure (f := 27)); exact rfl) | ((with_reducible apply q_call_pure (f := 27)); exact rfl; kernel_rfl; exact rfl; (focus (repeat (first | (apply SubJ.keep; (decide +kernel)) | apply SubJ.drop | exact SubJ.nil))))); (repeat (first | exact Evs.nil | apply Evs.cons rfl)); exact (fun w hw => (hchk ▸ rcheck_calls w (hp.keep hw (by ((focus (repeat (first | exact AO.nil | apply AO.cons | (apply AO.app; assumption)))) <;> done))) : Calls Try.prog 27 #[_] w fun e w' => e = .returned (errV (0, 0)) ∧ Below w.heap.size w w'))) | ((with_reducible first | apply o_move | apply o_assign | apply o_faddr0); exact rfl; exact rfl) | ((with_reducible apply gdo_load); first | refine wo_load (h := ?_) | refine wo_loadAll (h := ?_) | refine wo_loadC (h := ?_) | refine wo_ldV (h := ?_) | refine wo_ldF (h := ?_)) | ((with_reducible first | apply o_lss | apply o_leq | apply o_gtr | apply o_eql | apply o_neq | apply o_extract); exact rfl; exact rfl; exact rfl) | ((with_reducible apply o_alloc); exact rfl; intro _) | ((with_reducible apply o_box); exact rfl; exact rfl; exact rfl; intro _) | ((with_reducible apply o_len); infer_instance; exact rfl; exact rfl) | ((with_reducible first | apply c_seq | apply c_block | apply c_region | apply c_nil | apply c_ret | apply c_exit | apply c_unroll | apply c_skip)) | ((with_reducible apply c_cond_f); exact rfl; exact fF_) | ((with_reducible first | apply e_then | apply e_then_ret | apply e_then_exit | apply e_in | apply e_in_ret | apply e_in_same)))
  rename_i b2 b4
  apply c_loop (σ := Nat) (Fs := fun t => [(8, .int .i64 t), (5, .int .i64 0), (4, ptr b4), (2, ptr b2), (1, .slice ai items.length ci)]) (Ls := fun t => [⟨b4, Ce [.slice none 0 0, .slice none 0 0, .slice none 0 0] 71, true⟩, ⟨b2, Ce [.slice a1 p.caps.length c1, .slice a2 p.seats.length c2, .slice a3 p.first.length c3, .slice a4 p.second.length c4] 31, true⟩]) (I := fun t => t ≤ items.length) (μ := fun t => items.length - t) (s0 := 0)
  · exact Nat.zero_le _
  · (repeat (first | exact FSub.nil | refine FSub.cons rfl ?_))
  · ((try dsimp only); repeat (first | exact HSub.nil rfl | (apply HSub.take; (repeat (first | exact Rem.hd | apply Rem.tl | apply Rem.right))) | exact HSub.same | (apply HSub.takeL; ((focus (repeat (first | exact RemL.hd | exact RemL.all | exact RemL.nil | apply RemL.tl | apply RemL.right))) <;> done)) | apply HSub.drop | (apply HSub.takeL; (focus ((repeat (first | exact RemL.hd | exact RemL.all | exact RemL.nil | apply RemL.tl | apply RemL.right))))) | (apply HSub.takeA; (first | exact RemL.hd | exact RemL.all); ((focus (repeat (first | exact AO.nil | apply AO.cons | (apply AO.app; assumption)))) <;> done)) | (apply HSub.dropL; assumption) | (apply HSub.takeA; (focus ((repeat (first | exact RemL.hd | exact RemL.all | exact RemL.nil | apply RemL.tl | apply RemL.right)))); ((focus (repeat (first | exact AO.nil | apply AO.cons | (apply AO.app; assumption)))) <;> done)) | (apply HSub.nilA; ((focus (repeat (first | exact AO.nil | apply AO.cons | (apply AO.app; assumption)))) <;> done))))
  intro i hi'
  have hil2 : i ≤ items.length := hi'
  by_cases hlt : i < items.length
  · obtain ⟨x, hx⟩ : ∃ x, items[i]? = some x := ⟨_, List.getElem?_eq_getElem hlt⟩
    obtain ⟨s, hs⟩ := hR.fd x (List.mem_of_getElem? hx)
    obtain ⟨hsm, rfl⟩ := Seq.findF_mem' hs
    obtain ⟨k, hk⟩ := List.getElem?_of_mem hsm
    have hkl := (List.getElem?_eq_some_iff.1 hk).1
    have hcs := hcnt s hsm
    obtain ⟨bi, offi, ci', ei, fzi, rfl, hki, hpi⟩ := hopi (by omega)
    obtain ⟨bs, offs, cs', es, fzs, rfl, hks, hps⟩ := hop2 (by omega)
    have g1 := hpi.one hx rfl
    have g2 : ∀ j u, ([.int .i64 s.stop, .int .i64 s.vol, .int .i64 s.first, .int .i64 s.second] : List Value)[j]? = some u → cs'[offs + k * 4 + j]? = some u := hps.get hk
    have hf := fun w h => rfind_at (a1 := a1) (a3 := a3) (a4 := a4) (n1 := p.caps.length) (n3 := p.first.length) (n4 := p.second.length) (c1 := c1) (c3 := c3) (c4 := c4) (c2 := c2) (a2 := some ⟨bs, offs, none⟩) hR.nd hk w h
    repeat' (first | ((first | ((with_reducible apply o_call_pure (f := 29)); exact rfl) | ((with_reducible apply q_call_pure (f := 29)); exact rfl; kernel_rfl; exact rfl; (focus (repeat (first | (apply SubJ.keep; (decide +kernel)) | apply SubJ.drop | exact SubJ.nil))))); (repeat (first | exact Evs.nil | apply Evs.cons rfl)); exact (fun w hw => hf w (h2.keep hw (by ((focus (repeat (first | exact AO.nil | apply AO.cons | (apply AO.app; assumption)))) <;> done))))) | ((with_reducible first | apply o_move | apply o_assign | apply o_faddr0); exact rfl; exact rfl) | ((with_reducible first | apply o_lss | apply o_leq | apply o_gtr | apply o_eql | apply o_neq | apply o_extract); exact rfl; exact rfl; exact rfl) | ((with_reducible apply o_len); infer_instance; exact rfl; exact rfl) | ((with_reducible first | apply c_seq | apply c_block | apply c_region | apply c_nil | apply c_ret | apply c_exit | apply c_unroll | apply c_skip)) | ((with_reducible apply c_cond_t); exact rfl; exact tT_) | ((with_reducible apply c_cond_f); exact rfl; exact fF_) | ((with_reducible first | apply e_then | apply e_then_ret | apply e_then_exit | apply e_in | apply e_in_ret | apply e_in_same)) | ((with_reducible apply c_regionD0 (id := 9) []); kernel_rfl; kernel_rfl) | ((with_reducible apply q_nil); try simp only [ents, List.cons_append, List.nil_append]) | ((with_reducible first | apply q_move | apply q_assign | apply q_faddr0); exact rfl; exact rfl) | ((with_reducible apply gdq_load); first | refine wq_load (h := ?_) | refine wq_loadAll (h := ?_) | refine wq_loadC (h := ?_) | refine wq_ldV (h := ?_) | refine wq_ldF (h := ?_)) | ((with_reducible apply q_idx); infer_instance; infer_instance; exact rfl; exact rfl; (first | exact rfl | omega); exact rfl; (first | assumption | omega | decide)))
    apply c_loop (σ := Nat) (Fs := fun t => [(11, .int .i64 t), (10, .int .i64 ((items.take t).count s.stop)), (9, .int .i64 k), (8, .int .i64 i), (5, .int .i64 0), (4, ptr b4), (2, ptr b2), (1, .slice (some ⟨bi, offi, none⟩) items.length ci)])
      (Ls := fun t => [⟨b4, Ce [.slice none 0 0, .slice none 0 0, .slice none 0 0] 71, true⟩, ⟨b2, Ce [.slice a1 p.caps.length c1, .slice (some ⟨bs, offs, none⟩) p.seats.length c2, .slice a3 p.first.length c3, .slice a4 p.second.length c4] 31, true⟩]) (I := fun t => t ≤ i + 1) (μ := fun t => i + 1 - t) (s0 := 0)
    · exact Nat.zero_le _
    · (repeat (first | exact FSub.nil | refine FSub.cons rfl ?_))
    · ((try dsimp only); repeat (first | exact HSub.nil rfl | (apply HSub.take; (repeat (first | exact Rem.hd | apply Rem.tl | apply Rem.right))) | exact HSub.same | (apply HSub.takeL; ((focus (repeat (first | exact RemL.hd | exact RemL.all | exact RemL.nil | apply RemL.tl | apply RemL.right))) <;> done)) | apply HSub.drop | (apply HSub.takeL; (focus ((repeat (first | exact RemL.hd | exact RemL.all | exact RemL.nil | apply RemL.tl | apply RemL.right))))) | (apply HSub.takeA; (first | exact RemL.hd | exact RemL.all); ((focus (repeat (first | exact AO.nil | apply AO.cons | (apply AO.app; assumption)))) <;> done)) | (apply HSub.dropL; assumption) | (apply HSub.takeA; (focus ((repeat (first | exact RemL.hd | exact RemL.all | exact RemL.nil | apply RemL.tl | apply RemL.right)))); ((focus (repeat (first | exact AO.nil | apply AO.cons | (apply AO.app; assumption)))) <;> done)) | (apply HSub.nilA; ((focus (repeat (first | exact AO.nil | apply AO.cons | (apply AO.app; assumption)))) <;> done))))
    intro j hj
    have hj' : j ≤ i + 1 := hj
    by_cases hlt2 : j ≤ i
    · obtain ⟨y, hy⟩ : ∃ y, items[j]? = some y := ⟨_, List.getElem?_eq_getElem (by omega)⟩
      have g3 := hpi.one hy rfl
      have ht := count_take s.stop hy
      have hcl2 : (items.take j).count s.stop ≤ 2000 := Nat.le_trans (List.count_le_length ..) (by rw [List.length_take]; omega)
      generalize (items.take j).count s.stop = m at ht hcl2 ⊢
      by_cases hys : y = s.stop
      · rw [if_pos hys] at ht
        as_aux_lemma =>
          repeat' (first | ((with_reducible first | apply o_move | apply o_assign | apply o_faddr0); exact rfl; exact rfl) | ((with_reducible first | apply o_lss | apply o_leq | apply o_gtr | apply o_eql | apply o_neq | apply o_extract); exact rfl; exact rfl; exact rfl) | ((with_reducible apply o_add); exact rfl; exact rfl; exact rfl; (constructor <;> omega)) | ((with_reducible first | apply c_seq | apply c_block | apply c_region | apply c_nil | apply c_ret | apply c_exit | apply c_unroll | apply c_skip)) | ((with_reducible apply c_cond_t); exact rfl; exact tT_) | ((with_reducible first | apply e_then | apply e_then_ret | apply e_then_exit | apply e_in | apply e_in_ret | apply e_in_same)) | ((with_reducible apply c_regionD0 (id := 16) []); kernel_rfl; kernel_rfl) | ((with_reducible apply q_nil); try simp only [ents, List.cons_append, List.nil_append]) | ((with_reducible first | apply q_move | apply q_assign | apply q_faddr0); exact rfl; exact rfl) | ((with_reducible apply gdq_load); first | refine wq_load (h := ?_) | refine wq_loadAll (h := ?_) | refine wq_loadC (h := ?_) | refine wq_ldV (h := ?_) | refine wq_ldF (h := ?_)) | ((with_reducible first | apply q_lss | apply q_leq | apply q_gtr | apply q_eql | apply q_neq | apply q_extract); exact rfl; exact rfl; exact rfl) | ((with_reducible apply q_idx); infer_instance; infer_instance; exact rfl; exact rfl; (first | exact rfl | omega); exact rfl; (first | assumption | omega | decide)))
          refine l_again (j + 1) (by omega) (by omega) ?_ ?_
          · (try dsimp only); rw [ht]; (repeat (first | exact FSub.nil | refine FSub.cons rfl ?_))
          · ((try dsimp only); repeat (first | exact HSub.nil rfl | (apply HSub.take; (repeat (first | exact Rem.hd | apply Rem.tl | apply Rem.right))) | exact HSub.same | (apply HSub.takeL; ((focus (repeat (first | exact RemL.hd | exact RemL.all | exact RemL.nil | apply RemL.tl | apply RemL.right))) <;> done)) | apply HSub.drop | (apply HSub.takeL; (focus ((repeat (first | exact RemL.hd | exact RemL.all | exact RemL.nil | apply RemL.tl | apply RemL.right))))) | (apply HSub.takeA; (first | exact RemL.hd | exact RemL.all); ((focus (repeat (first | exact AO.nil | apply AO.cons | (apply AO.app; assumption)))) <;> done)) | (apply HSub.dropL; assumption) | (apply HSub.takeA; (focus ((repeat (first | exact RemL.hd | exact RemL.all | exact RemL.nil | apply RemL.tl | apply RemL.right)))); ((focus (repeat (first | exact AO.nil | apply AO.cons | (apply AO.app; assumption)))) <;> done)) | (apply HSub.nilA; ((focus (repeat (first | exact AO.nil | apply AO.cons | (apply AO.app; assumption)))) <;> done))))
      · rw [if_neg hys, Nat.add_zero] at ht
        as_aux_lemma =>
          repeat' (first | ((with_reducible first | apply o_move | apply o_assign | apply o_faddr0); exact rfl; exact rfl) | ((with_reducible first | apply o_lss | apply o_leq | apply o_gtr | apply o_eql | apply o_neq | apply o_extract); exact rfl; exact rfl; exact rfl) | ((with_reducible apply o_add); exact rfl; exact rfl; exact rfl; (constructor <;> omega)) | ((with_reducible first | apply c_seq | apply c_block | apply c_region | apply c_nil | apply c_ret | apply c_exit | apply c_unroll | apply c_skip)) | ((with_reducible apply c_cond_t); exact rfl; exact tT_) | ((with_reducible apply c_cond_f); exact rfl; exact fF_) | ((with_reducible first | apply e_then | apply e_then_ret | apply e_then_exit | apply e_in | apply e_in_ret | apply e_in_same)) | ((with_reducible apply c_regionD0 (id := 16) []); kernel_rfl; kernel_rfl) | ((with_reducible apply q_nil); try simp only [ents, List.cons_append, List.nil_append]) | ((with_reducible first | apply q_move | apply q_assign | apply q_faddr0); exact rfl; exact rfl) | ((with_reducible apply gdq_load); first | refine wq_load (h := ?_) | refine wq_loadAll (h := ?_) | refine wq_loadC (h := ?_) | refine wq_ldV (h := ?_) | refine wq_ldF (h := ?_)) | ((with_reducible first | apply q_lss | apply q_leq | apply q_gtr | apply q_eql | apply q_neq | apply q_extract); exact rfl; exact rfl; exact rfl) | ((with_reducible apply q_idx); infer_instance; infer_instance; exact rfl; exact rfl; (first | exact rfl | omega); exact rfl; (first | assumption | omega | decide)))
          refine l_again (j + 1) (by omega) (by omega) ?_ ?_
          · (try dsimp only); rw [ht]; (repeat (first | exact FSub.nil | refine FSub.cons rfl ?_))
          · ((try dsimp only); repeat (first | exact HSub.nil rfl | (apply HSub.take; (repeat (first | exact Rem.hd | apply Rem.tl | apply Rem.right))) | exact HSub.same | (apply HSub.takeL; ((focus (repeat (first | exact RemL.hd | exact RemL.all | exact RemL.nil | apply RemL.tl | apply RemL.right))) <;> done)) | apply HSub.drop | (apply HSub.takeL; (focus ((repeat (first | exact RemL.hd | exact RemL.all | exact RemL.nil | apply RemL.tl | apply RemL.right))))) | (apply HSub.takeA; (first | exact RemL.hd | exact RemL.all); ((focus (repeat (first | exact AO.nil | apply AO.cons | (apply AO.app; assumption)))) <;> done)) | (apply HSub.dropL; assumption) | (apply HSub.takeA; (focus ((repeat (first | exact RemL.hd | exact RemL.all | exact RemL.nil | apply RemL.tl | apply RemL.right)))); ((focus (repeat (first | exact AO.nil | apply AO.cons | (apply AO.app; assumption)))) <;> done)) | (apply HSub.nilA; ((focus (repeat (first | exact AO.nil | apply AO.cons | (apply AO.app; assumption)))) <;> done))))
    · obtain rfl : j = i + 1 := by omega
      have hle : (items.take (i + 1)).count s.stop ≤ items.count s.stop := List.Sublist.count_le _ (List.take_sublist _ _)
      generalize (items.take (i + 1)).count s.stop = m at hle ⊢
      generalize items.count s.stop = m2 at hcs hle
      have hvol : (m : Int) ≤ s.vol := by omega
      generalize s.vol = vol at g2 hvol
      as_aux_lemma =>
        repeat' (first | ((with_reducible first | apply o_move | apply o_assign | apply o_faddr0); exact rfl; exact rfl) | ((with_reducible apply o_faddr); exact rfl; exact rfl) | ((with_reducible apply gdo_load); first | refine wo_load (h := ?_) | refine wo_loadAll (h := ?_) | refine wo_loadC (h := ?_) | refine wo_ldV (h := ?_) | refine wo_ldF (h := ?_)) | ((with_reducible first | apply o_lss | apply o_leq | apply o_gtr | apply o_eql | apply o_neq | apply o_extract); exact rfl; exact rfl; exact rfl) | ((with_reducible apply o_add); exact rfl; exact rfl; exact rfl; (constructor <;> omega)) | ((with_reducible apply o_idx); infer_instance; infer_instance; exact rfl; exact rfl; (first | exact rfl | omega); exact rfl; (first | assumption | omega | decide)) | ((with_reducible first | apply c_seq | apply c_block | apply c_region | apply c_nil | apply c_ret | apply c_exit | apply c_unroll | apply c_skip)) | ((with_reducible apply c_cond_f); exact rfl; exact fF_) | ((with_reducible first | apply e_then | apply e_then_ret | apply e_then_exit | apply e_in | apply e_in_ret | apply e_in_same)))
        refine l_again (i + 1) (by omega) (by omega) ?_ ?_
        · (repeat (first | exact FSub.nil | refine FSub.cons rfl ?_))
        · ((try dsimp only); repeat (first | exact HSub.nil rfl | (apply HSub.take; (repeat (first | exact Rem.hd | apply Rem.tl | apply Rem.right))) | exact HSub.same | (apply HSub.takeL; ((focus (repeat (first | exact RemL.hd | exact RemL.all | exact RemL.nil | apply RemL.tl | apply RemL.right))) <;> done)) | apply HSub.drop | (apply HSub.takeL; (focus ((repeat (first | exact RemL.hd | exact RemL.all | exact RemL.nil | apply RemL.tl | apply RemL.right))))) | (apply HSub.takeA; (first | exact RemL.hd | exact RemL.all); ((focus (repeat (first | exact AO.nil | apply AO.cons | (apply AO.app; assumption)))) <;> done)) | (apply HSub.dropL; assumption) | (apply HSub.takeA; (focus ((repeat (first | exact RemL.hd | exact RemL.all | exact RemL.nil | apply RemL.tl | apply RemL.right)))); ((focus (repeat (first | exact AO.nil | apply AO.cons | (apply AO.app; assumption)))) <;> done)) | (apply HSub.nilA; ((focus (repeat (first | exact AO.nil | apply AO.cons | (apply AO.app; assumption)))) <;> done))))
  obtain rfl : i = items.length := by omega
  repeat' (first | ((with_reducible first | apply o_move | apply o_assign | apply o_faddr0); exact rfl; exact rfl) | ((with_reducible first | apply o_lss | apply o_leq | apply o_gtr | apply o_eql | apply o_neq | apply o_extract); exact rfl; exact rfl; exact rfl) | ((with_reducible apply o_alloc); exact rfl; intro _) | ((with_reducible apply o_len); infer_instance; exact rfl; exact rfl) | ((with_reducible first | apply c_seq | apply c_block | apply c_region | apply c_nil | apply c_ret | apply c_exit | apply c_unroll | apply c_skip)) | ((with_reducible apply c_cond_f); exact rfl; exact fF_) | ((with_reducible first | apply e_then | apply e_then_ret | apply e_then_exit | apply e_in | apply e_in_ret | apply e_in_same)))
  rename_i b12
  apply c_loop (σ := RSt) (Fs := fun t => [(13, .int .i64 t.k), (12, ptr b12), (5, .int .i64 0), (4, ptr b4), (2, ptr b2), (1, .slice ai items.length ci)])
    (Ls := fun t => ⟨b12, Ce [.slice t.af t.sf.length t.cf, .slice t.as2 t.ss2.length t.cs2, .slice t.ao (rowsS p items t.k).flatten.length t.co] 71, true⟩ :: (t.nf ++ (t.mf ++ (t.ns2 ++ (t.ms2 ++ (t.no ++ [⟨b4, Ce [.slice none 0 0, .slice none 0 0, .slice none 0 0] 71, true⟩, ⟨b2, Ce [.slice a1 p.caps.length c1, .slice a2 p.seats.length c2, .slice a3 p.first.length c3, .slice a4 p.second.length c4] 31, true⟩]))))))
    (I := fun t => t.k ≤ p.caps.length ∧ OW 24 1 encS (.slice t.af t.sf.length t.cf) t.sf t.nf ∧ LL 3 1 encN t.sf (rowsF p items t.k) t.mf ∧ OW 24 1 encS (.slice t.as2 t.ss2.length t.cs2) t.ss2 t.ns2 ∧ LL 3 1 encN t.ss2 (rowsS p items t.k) t.ms2 ∧ OW 3 1 encN (.slice t.ao (rowsS p items t.k).flatten.length t.co) (rowsS p items t.k).flatten t.no)
    (μ := fun t => p.caps.length - t.k) (s0 := ⟨0, none, 0, [], [], [], none, 0, [], [], [], none, 0, []⟩)
  · exact ⟨Nat.zero_le _, OW.nil, LL.nil, OW.nil, LL.nil, OW.nil⟩
  · (repeat (first | exact FSub.nil | refine FSub.cons rfl ?_))
  · ((try dsimp only); repeat (first | exact HSub.nil rfl | (apply HSub.take; (repeat (first | exact Rem.hd | apply Rem.tl | apply Rem.right))) | exact HSub.same | (apply HSub.takeL; ((focus (repeat (first | exact RemL.hd | exact RemL.all | exact RemL.nil | apply RemL.tl | apply RemL.right))) <;> done)) | apply HSub.drop | (apply HSub.takeL; (focus ((repeat (first | exact RemL.hd | exact RemL.all | exact RemL.nil | apply RemL.tl | apply RemL.right))))) | (apply HSub.takeA; (first | exact RemL.hd | exact RemL.all); ((focus (repeat (first | exact AO.nil | apply AO.cons | (apply AO.app; assumption)))) <;> done)) | (apply HSub.dropL; assumption) | (apply HSub.takeA; (focus ((repeat (first | exact RemL.hd | exact RemL.all | exact RemL.nil | apply RemL.tl | apply RemL.right)))); ((focus (repeat (first | exact AO.nil | apply AO.cons | (apply AO.app; assumption)))) <;> done)) | (apply HSub.nilA; ((focus (repeat (first | exact AO.nil | apply AO.cons | (apply AO.app; assumption)))) <;> done))))
  rintro ⟨k, af, cf, sf, NF, MF, as2, cs2, ss2, N2, M2, ao, co, NO⟩ ⟨hk, hF, hFL, hS, hSL, hO⟩
  dsimp only at hk hF hFL hS hSL hO ⊢
  have oF := hF.own
  have oFL := hFL.own
  have oS := hS.own
  have oSL := hSL.own
  have oO := hO.own
  by_cases hlt : k < p.caps.length
  case neg =>
    obtain rfl : k = p.caps.length := by omega
    have hrun : Seq.runF p items = ⟨rowsF p items p.caps.length, rowsS p items p.caps.length, (rowsS p items p.caps.length).flatten⟩ := hR.run
    have e1 := hFL.len
    have e2 := hSL.len
    rw [hrun]
    rw [e1] at hF
    rw [e2] at hS
    repeat' (first | ((with_reducible first | apply o_move | apply o_assign | apply o_faddr0); exact rfl; exact rfl) | ((with_reducible apply gdo_load); first | refine wo_load (h := ?_) | refine wo_loadAll (h := ?_) | refine wo_loadC (h := ?_) | refine wo_ldV (h := ?_) | refine wo_ldF (h := ?_)) | ((with_reducible first | apply o_lss | apply o_leq | apply o_gtr | apply o_eql | apply o_neq | apply o_extract); exact rfl; exact rfl; exact rfl) | ((with_reducible apply gdo_store); first | refine wo_store1 (h := ?_) | refine wo_storeA (h := ?_)) | ((with_reducible apply o_len); infer_instance; exact rfl; exact rfl) | ((with_reducible first | apply c_seq | apply c_block | apply c_region | apply c_nil | apply c_ret | apply c_exit | apply c_unroll | apply c_skip)) | ((with_reducible apply c_cond_f); exact rfl; exact fF_) | ((with_reducible first | apply e_then | apply e_then_ret | apply e_then_exit | apply e_in | apply e_in_ret | apply e_in_same)))
    apply r_body; apply res2 Try.results31; exact rV_; exact rV_; intro w' hw
    refine ⟨_, NF ++ (MF ++ (N2 ++ (M2 ++ NO))), rfl, ⟨af, cf, as2, cs2, ao, co, sf, ss2, NF, MF, N2, M2, NO, ?_, hF, hFL, hS, hSL, hO, rfl, oF, oFL, oS, oSL, oO⟩, hw.sub (by ((try dsimp only); repeat (first | exact HSub.nil rfl | (apply HSub.take; (repeat (first | exact Rem.hd | apply Rem.tl | apply Rem.right))) | exact HSub.same | (apply HSub.takeL; ((focus (repeat (first | exact RemL.hd | exact RemL.all | exact RemL.nil | apply RemL.tl | apply RemL.right))) <;> done)) | apply HSub.drop | (apply HSub.takeL; (focus ((repeat (first | exact RemL.hd | exact RemL.all | exact RemL.nil | apply RemL.tl | apply RemL.right))))) | (apply HSub.takeA; (first | exact RemL.hd | exact RemL.all); ((focus (repeat (first | exact AO.nil | apply AO.cons | (apply AO.app; assumption)))) <;> done)) | (apply HSub.dropL; assumption) | (apply HSub.takeA; (focus ((repeat (first | exact RemL.hd | exact RemL.all | exact RemL.nil | apply RemL.tl | apply RemL.right)))); ((focus (repeat (first | exact AO.nil | apply AO.cons | (apply AO.app; assumption)))) <;> done)) | (apply HSub.nilA; ((focus (repeat (first | exact AO.nil | apply AO.cons | (apply AO.app; assumption)))) <;> done))))), ?_⟩
    · dsimp only; rw [← e1, ← e2]
    · intro x hx
      simp only [List.mem_append] at hx
      rcases hx with hx | hx | hx | hx | hx
      · exact oF x hx
      · exact oFL x hx
      · exact oS x hx
      · exact oSL x hx
      · exact oO x hx
  repeat' (first | ((with_reducible first | apply o_move | apply o_assign | apply o_faddr0); exact rfl; exact rfl) | ((with_reducible apply gdo_load); first | refine wo_load (h := ?_) | refine wo_loadAll (h := ?_) | refine wo_loadC (h := ?_) | refine wo_ldV (h := ?_) | refine wo_ldF (h := ?_)) | ((with_reducible first | apply o_lss | apply o_leq | apply o_gtr | apply o_eql | apply o_neq | apply o_extract); exact rfl; exact rfl; exact rfl) | ((with_reducible apply o_len); infer_instance; exact rfl; exact rfl) | ((with_reducible first | apply c_seq | apply c_block | apply c_region | apply c_nil | apply c_ret | apply c_exit | apply c_unroll | apply c_skip)) | ((with_reducible apply c_cond_t); exact rfl; exact tT_) | ((with_reducible first | apply e_then | apply e_then_ret | apply e_then_exit | apply e_in | apply e_in_ret | apply e_in_same)))
  apply c_loop (σ := Nat × (Option Addr × Nat) × List Ent) (Fs := fun t => [(15, .int .i64 t.1), (14, .slice t.2.1.1 (firstRow p items k t.1).length t.2.1.2), (13, .int .i64 k), (12, ptr b12), (5, .int .i64 0), (4, ptr b4), (2, ptr b2), (1, .slice ai items.length ci)])
    (Ls := fun t => t.2.2 ++ (⟨b12, Ce [.slice af sf.length cf, .slice as2 ss2.length cs2, .slice ao (rowsS p items k).flatten.length co] 71, true⟩ :: (NF ++ (MF ++ (N2 ++ (M2 ++ (NO ++ [⟨b4, Ce [.slice none 0 0, .slice none 0 0, .slice none 0 0] 71, true⟩, ⟨b2, Ce [.slice a1 p.caps.length c1, .slice a2 p.seats.length c2, .slice a3 p.first.length c3, .slice a4 p.second.length c4] 31, true⟩])))))))
    (I := fun t => t.1 ≤ items.length ∧ OW 3 1 encN (.slice t.2.1.1 (firstRow p items k t.1).length t.2.1.2) (firstRow p items k t.1) t.2.2) (μ := fun t => items.length - t.1) (s0 := (0, (none, 0), []))
  · exact ⟨Nat.zero_le _, OW.nil⟩
  · (repeat (first | exact FSub.nil | refine FSub.cons rfl ?_))
  · ((try dsimp only); repeat (first | exact HSub.nil rfl | (apply HSub.take; (repeat (first | exact Rem.hd | apply Rem.tl | apply Rem.right))) | exact HSub.same | (apply HSub.takeL; ((focus (repeat (first | exact RemL.hd | exact RemL.all | exact RemL.nil | apply RemL.tl | apply RemL.right))) <;> done)) | apply HSub.drop | (apply HSub.takeL; (focus ((repeat (first | exact RemL.hd | exact RemL.all | exact RemL.nil | apply RemL.tl | apply RemL.right))))) | (apply HSub.takeA; (first | exact RemL.hd | exact RemL.all); ((focus (repeat (first | exact AO.nil | apply AO.cons | (apply AO.app; assumption)))) <;> done)) | (apply HSub.dropL; assumption) | (apply HSub.takeA; (focus ((repeat (first | exact RemL.hd | exact RemL.all | exact RemL.nil | apply RemL.tl | apply RemL.right)))); ((focus (repeat (first | exact AO.nil | apply AO.cons | (apply AO.app; assumption)))) <;> done)) | (apply HSub.nilA; ((focus (repeat (first | exact AO.nil | apply AO.cons | (apply AO.app; assumption)))) <;> done))))
  rintro ⟨i, ⟨al, cl⟩, NL⟩ ⟨hi2, hL⟩
  dsimp only at hi2 hL ⊢
  have oL := hL.own
  by_cases hlt2 : i < items.length
  · obtain ⟨x, hx⟩ : ∃ x, items[i]? = some x := ⟨_, List.getElem?_eq_getElem hlt2⟩
    obtain ⟨s, hs⟩ := hR.fd x (List.mem_of_getElem? hx)
    have hkey := Seq.keyF_at (g := Seq.Seat.first) hx hs
    obtain ⟨hsm, rfl⟩ := Seq.findF_mem' hs
    have hrg := (hR.rg s hsm).1
    obtain ⟨q, hq⟩ := List.getElem?_of_mem hsm
    have hql := (List.getElem?_eq_some_iff.1 hq).1
    obtain ⟨bi, offi, ci', ei, fzi, rfl, hki, hpi⟩ := hopi (by omega)
    obtain ⟨bs, offs, cs', es, fzs, rfl, hks, hps⟩ := hop2 (by omega)
    have g1 := hpi.one hx rfl
    have g2 : ∀ j u, ([.int .i64 s.stop, .int .i64 s.vol, .int .i64 s.first, .int .i64 s.second] : List Value)[j]? = some u → cs'[offs + q * 4 + j]? = some u := hps.get hq
    have hf := fun w h => rfind_at (a1 := a1) (a3 := a3) (a4 := a4) (n1 := p.caps.length) (n3 := p.first.length) (n4 := p.second.length) (c1 := c1) (c3 := c3) (c4 := c4) (c2 := c2) (a2 := some ⟨bs, offs, none⟩) hR.nd hq w h
    have hsn := firstRow_succ p items k i
    have hfl := firstRow_len p items k i
    rw [hkey] at hsn
    generalize firstRow p items k i = R at hL hsn hfl ⊢
    by_cases hfk : s.first = k
    · rw [if_pos (by omega)] at hsn
      generalize s.first = fi at g2 hfk
      as_aux_lemma =>
        repeat' (first | ((first | ((with_reducible apply o_call_pure (f := 29)); exact rfl) | ((with_reducible apply q_call_pure (f := 29)); exact rfl; kernel_rfl; exact rfl; (focus (repeat (first | (apply SubJ.keep; (decide +kernel)) | apply SubJ.drop | exact SubJ.nil))))); (repeat (first | exact Evs.nil | apply Evs.cons rfl)); exact (fun w hw => hf w (h2.keep hw (by ((focus (repeat (first | exact AO.nil | apply AO.cons | (apply AO.app; assumption)))) <;> done))))) | (apply o_appH (enc := encN) (ys := [(i)]); infer_instance; infer_instance; infer_instance; exact rfl; exact encN_len; exact encN_one; exact rfl; exact rfl; exact rfl; assumption; (repeat (first | exact RemL.hd | exact RemL.all | exact RemL.nil | apply RemL.tl | apply RemL.right)); (exact fun w hw => SV.lit [(i)] encN_len hw (by ((focus (repeat (first | assumption | exact At.hd | refine At.tl ?_ | (refine At.left ?_; assumption) | refine At.right ?_))) <;> done)) rfl rfl (by decide)); (first | decide | (constructor <;> (try simp only [List.length_cons, List.length_nil]) <;> omega) | (constructor <;> simp <;> omega)); intro a_ cp_ N_ hO_; have oN_ := hO_.own; (try simp only [List.nil_append, List.append_assoc] at hO_); (try simp only [List.append_eq, List.append_assoc, List.cons_append, List.nil_append])) | ((with_reducible first | apply o_move | apply o_assign | apply o_faddr0); exact rfl; exact rfl) | ((with_reducible first | apply o_lss | apply o_leq | apply o_gtr | apply o_eql | apply o_neq | apply o_extract); exact rfl; exact rfl; exact rfl) | ((with_reducible apply o_add); exact rfl; exact rfl; exact rfl; (constructor <;> omega)) | ((with_reducible apply o_len); infer_instance; exact rfl; exact rfl) | ((with_reducible apply gdo_buildSlice); refine wo_buildSlice (h := fun _ => ?_)) | ((with_reducible first | apply c_seq | apply c_block | apply c_region | apply c_nil | apply c_ret | apply c_exit | apply c_unroll | apply c_skip)) | ((with_reducible apply c_cond_t); exact rfl; exact tT_) | ((with_reducible first | apply e_then | apply e_then_ret | apply e_then_exit | apply e_in | apply e_in_ret | apply e_in_same)) | ((with_reducible apply c_regionD0 (id := 28) []); kernel_rfl; kernel_rfl) | ((with_reducible apply q_nil); try simp only [ents, List.cons_append, List.nil_append]) | ((with_reducible first | apply q_move | apply q_assign | apply q_faddr0); exact rfl; exact rfl) | ((with_reducible apply q_faddr); exact rfl; exact rfl) | ((with_reducible apply gdq_load); first | refine wq_load (h := ?_) | refine wq_loadAll (h := ?_) | refine wq_loadC (h := ?_) | refine wq_ldV (h := ?_) | refine wq_ldF (h := ?_)) | ((with_reducible first | apply q_lss | apply q_leq | apply q_gtr | apply q_eql | apply q_neq | apply q_extract); exact rfl; exact rfl; exact rfl) | ((with_reducible apply q_idx); infer_instance; infer_instance; exact rfl; exact rfl; (first | exact rfl | omega); exact rfl; (first | assumption | omega | decide)))
        refine l_again (i + 1, (a_, cp_), N_) ⟨by dsimp only; omega, by dsimp only; rw [hsn]; exact hO_⟩ (by dsimp only; omega) ?_ ?_
        · dsimp only; rw [hsn]; (repeat (first | exact FSub.nil | refine FSub.cons rfl ?_))
        · ((try dsimp only); repeat (first | exact HSub.nil rfl | (apply HSub.take; (repeat (first | exact Rem.hd | apply Rem.tl | apply Rem.right))) | exact HSub.same | (apply HSub.takeL; ((focus (repeat (first | exact RemL.hd | exact RemL.all | exact RemL.nil | apply RemL.tl | apply RemL.right))) <;> done)) | apply HSub.drop | (apply HSub.takeL; (focus ((repeat (first | exact RemL.hd | exact RemL.all | exact RemL.nil | apply RemL.tl | apply RemL.right))))) | (apply HSub.takeA; (first | exact RemL.hd | exact RemL.all); ((focus (repeat (first | exact AO.nil | apply AO.cons | (apply AO.app; assumption)))) <;> done)) | (apply HSub.dropL; assumption) | (apply HSub.takeA; (focus ((repeat (first | exact RemL.hd | exact RemL.all | exact RemL.nil | apply RemL.tl | apply RemL.right)))); ((focus (repeat (first | exact AO.nil | apply AO.cons | (apply AO.app; assumption)))) <;> done)) | (apply HSub.nilA; ((focus (repeat (first | exact AO.nil | apply AO.cons | (apply AO.app; assumption)))) <;> done))))
    · rw [if_neg (by omega), List.append_nil] at hsn
      generalize s.first = fi at g2 hfk
      as_aux_lemma =>
        repeat' (first | ((first | ((with_reducible apply o_call_pure (f := 29)); exact rfl) | ((with_reducible apply q_call_pure (f := 29)); exact rfl; kernel_rfl; exact rfl; (focus (repeat (first | (apply SubJ.keep; (decide +kernel)) | apply SubJ.drop | exact SubJ.nil))))); (repeat (first | exact Evs.nil | apply Evs.cons rfl)); exact (fun w hw => hf w (h2.keep hw (by ((focus (repeat (first | exact AO.nil | apply AO.cons | (apply AO.app; assumption)))) <;> done))))) | ((with_reducible first | apply o_move | apply o_assign | apply o_faddr0); exact rfl; exact rfl) | ((with_reducible first | apply o_lss | apply o_leq | apply o_gtr | apply o_eql | apply o_neq | apply o_extract); exact rfl; exact rfl; exact rfl) | ((with_reducible apply o_add); exact rfl; exact rfl; exact rfl; (constructor <;> omega)) | ((with_reducible apply o_len); infer_instance; exact rfl; exact rfl) | ((with_reducible first | apply c_seq | apply c_block | apply c_region | apply c_nil | apply c_ret | apply c_exit | apply c_unroll | apply c_skip)) | ((with_reducible apply c_cond_t); exact rfl; exact tT_) | ((with_reducible apply c_cond_f); exact rfl; exact fF_) | ((with_reducible first | apply e_then | apply e_then_ret | apply e_then_exit | apply e_in | apply e_in_ret | apply e_in_same)) | ((with_reducible apply c_regionD0 (id := 28) []); kernel_rfl; kernel_rfl) | ((with_reducible apply q_nil); try simp only [ents, List.cons_append, List.nil_append]) | ((with_reducible first | apply q_move | apply q_assign | apply q_faddr0); exact rfl; exact rfl) | ((with_reducible apply q_faddr); exact rfl; exact rfl) | ((with_reducible apply gdq_load); first | refine wq_load (h := ?_) | refine wq_loadAll (h := ?_) | refine wq_loadC (h := ?_) | refine wq_ldV (h := ?_) | refine wq_ldF (h := ?_)) | ((with_reducible first | apply q_lss | apply q_leq | apply q_gtr | apply q_eql | apply q_neq | apply q_extract); exact rfl; exact rfl; exact rfl) | ((with_reducible apply q_idx); infer_instance; infer_instance; exact rfl; exact rfl; (first | exact rfl | omega); exact rfl; (first | assumption | omega | decide)))
        refine l_again (i + 1, (al, cl), NL) ⟨by dsimp only; omega, by dsimp only; rw [hsn]; exact hL⟩ (by dsimp only; omega) ?_ ?_
        · dsimp only; rw [hsn]; (repeat (first | exact FSub.nil | refine FSub.cons rfl ?_))
        · ((try dsimp only); repeat (first | exact HSub.nil rfl | (apply HSub.take; (repeat (first | exact Rem.hd | apply Rem.tl | apply Rem.right))) | exact HSub.same | (apply HSub.takeL; ((focus (repeat (first | exact RemL.hd | exact RemL.all | exact RemL.nil | apply RemL.tl | apply RemL.right))) <;> done)) | apply HSub.drop | (apply HSub.takeL; (focus ((repeat (first | exact RemL.hd | exact RemL.all | exact RemL.nil | apply RemL.tl | apply RemL.right))))) | (apply HSub.takeA; (first | exact RemL.hd | exact RemL.all); ((focus (repeat (first | exact AO.nil | apply AO.cons | (apply AO.app; assumption)))) <;> done)) | (apply HSub.dropL; assumption) | (apply HSub.takeA; (focus ((repeat (first | exact RemL.hd | exact RemL.all | exact RemL.nil | apply RemL.tl | apply RemL.right)))); ((focus (repeat (first | exact AO.nil | apply AO.cons | (apply AO.app; assumption)))) <;> done)) | (apply HSub.nilA; ((focus (repeat (first | exact AO.nil | apply AO.cons | (apply AO.app; assumption)))) <;> done))))
  obtain rfl : i = items.length := by omega
  have hfl := firstRow_len p items k items.length
  have hFL' := hFL.snoc (s := (al, (firstRow p items k items.length).length, cl)) hL
  rw [← rowsF_succ] at hFL'
  generalize hFR : firstRow p items k items.length = FR at hL hfl hFL' ⊢
  have hsfl : sf.length = k := by rw [hFL.len]; simp [rowsF]
  repeat' (first | (apply o_appH (enc := encS) (ys := [((al, FR.length, cl) : SD)]); infer_instance; infer_instance; infer_instance; exact rfl; exact encS_len; exact encS_one; exact rfl; exact rfl; exact rfl; assumption; (repeat (first | exact RemL.hd | exact RemL.all | exact RemL.nil | apply RemL.tl | apply RemL.right)); (exact fun w hw => SV.lit [((al, FR.length, cl) : SD)] encS_len hw (by ((focus (repeat (first | assumption | exact At.hd | refine At.tl ?_ | (refine At.left ?_; assumption) | refine At.right ?_))) <;> done)) rfl rfl (by decide)); (first | decide | (constructor <;> (try simp only [List.length_cons, List.length_nil]) <;> omega) | (constructor <;> simp <;> omega)); intro a_ cp_ N_ hO_; have oN_ := hO_.own; (try simp only [List.nil_append, List.append_assoc] at hO_); (try simp only [List.append_eq, List.append_assoc, List.cons_append, List.nil_append])) | ((with_reducible first | apply o_move | apply o_assign | apply o_faddr0); exact rfl; exact rfl) | ((with_reducible apply gdo_load); first | refine wo_load (h := ?_) | refine wo_loadAll (h := ?_) | refine wo_loadC (h := ?_) | refine wo_ldV (h := ?_) | refine wo_ldF (h := ?_)) | ((with_reducible first | apply o_lss | apply o_leq | apply o_gtr | apply o_eql | apply o_neq | apply o_extract); exact rfl; exact rfl; exact rfl) | ((with_reducible apply gdo_store); first | refine wo_store1 (h := ?_) | refine wo_storeA (h := ?_)) | ((with_reducible apply o_len); infer_instance; exact rfl; exact rfl) | ((with_reducible apply gdo_buildSlice); refine wo_buildSlice (h := fun _ => ?_)) | ((with_reducible first | apply c_seq | apply c_block | apply c_region | apply c_nil | apply c_ret | apply c_exit | apply c_unroll | apply c_skip)) | ((with_reducible apply c_cond_f); exact rfl; exact fF_) | ((with_reducible first | apply e_then | apply e_then_ret | apply e_then_exit | apply e_in | apply e_in_ret | apply e_in_same)))
  apply c_loop (σ := Nat × (Option Addr × Nat) × List Ent) (Fs := fun t => [(16, .int .i64 t.1), (14, .slice t.2.1.1 (Seq.secR (p.seats.take t.1) items k).length t.2.1.2), (13, .int .i64 k), (12, ptr b12), (5, .int .i64 0), (4, ptr b4), (2, ptr b2), (1, .slice ai items.length ci)])
    (Ls := fun t => t.2.2 ++ (⟨b12, Ce [.slice a_ (sf ++ [(al, FR.length, cl)]).length cp_, .slice as2 ss2.length cs2, .slice ao (rowsS p items k).flatten.length co] 71, true⟩ :: (N_ ++ (MF ++ (NL ++ (N2 ++ (M2 ++ (NO ++ [⟨b4, Ce [.slice none 0 0, .slice none 0 0, .slice none 0 0] 71, true⟩, ⟨b2, Ce [.slice a1 p.caps.length c1, .slice a2 p.seats.length c2, .slice a3 p.first.length c3, .slice a4 p.second.length c4] 31, true⟩]))))))))
    (I := fun t => t.1 ≤ p.seats.length ∧ OW 3 1 encN (.slice t.2.1.1 (Seq.secR (p.seats.take t.1) items k).length t.2.1.2) (Seq.secR (p.seats.take t.1) items k) t.2.2) (μ := fun t => p.seats.length - t.1) (s0 := (0, (none, 0), []))
  · exact ⟨Nat.zero_le _, OW.nil⟩
  · (repeat (first | exact FSub.nil | refine FSub.cons rfl ?_))
  · ((try dsimp only); repeat (first | exact HSub.nil rfl | (apply HSub.take; (repeat (first | exact Rem.hd | apply Rem.tl | apply Rem.right))) | exact HSub.same | (apply HSub.takeL; ((focus (repeat (first | exact RemL.hd | exact RemL.all | exact RemL.nil | apply RemL.tl | apply RemL.right))) <;> done)) | apply HSub.drop | (apply HSub.takeL; (focus ((repeat (first | exact RemL.hd | exact RemL.all | exact RemL.nil | apply RemL.tl | apply RemL.right))))) | (apply HSub.takeA; (first | exact RemL.hd | exact RemL.all); ((focus (repeat (first | exact AO.nil | apply AO.cons | (apply AO.app; assumption)))) <;> done)) | (apply HSub.dropL; assumption) | (apply HSub.takeA; (focus ((repeat (first | exact RemL.hd | exact RemL.all | exact RemL.nil | apply RemL.tl | apply RemL.right)))); ((focus (repeat (first | exact AO.nil | apply AO.cons | (apply AO.app; assumption)))) <;> done)) | (apply HSub.nilA; ((focus (repeat (first | exact AO.nil | apply AO.cons | (apply AO.app; assumption)))) <;> done))))
  rintro ⟨z, ⟨aq, cq⟩, NQ⟩ ⟨hz, hQ⟩
  dsimp only at hz hQ ⊢
  have oQ := hQ.own
  by_cases hlz : z < p.seats.length
  · obtain ⟨S, hS1⟩ : ∃ S, p.seats[z]? = some S := ⟨_, List.getElem?_eq_getElem hlz⟩
    have hts : p.seats.take (z + 1) = p.seats.take z ++ [S] := by rw [List.take_add_one, hS1]; rfl
    have hsc := secR_snoc (p.seats.take z) S items k
    rw [← hts] at hsc
    obtain ⟨bs, offs, cs', es, fzs, rfl, hks, hps⟩ := hop2 (by omega)
    have g2 : ∀ j u, ([.int .i64 S.stop, .int .i64 S.vol, .int .i64 S.first, .int .i64 S.second] : List Value)[j]? = some u → cs'[offs + z * 4 + j]? = some u := hps.get hS1
    have g3 := hps.one hS1 (u := .int .i64 S.stop) rfl
    have hsl2 := secR_len items k (p.seats.take z)
    have hslb : (Seq.secR (p.seats.take z) items k).length ≤ 2000000 := by
      have : (p.seats.take z).length * items.length ≤ 1000 * 2000 := Nat.mul_le_mul (by rw [List.length_take]; omega) hil
      omega
    generalize Seq.secR (p.seats.take z) items k = R at hQ hsc hslb ⊢
    by_cases hsk : S.second = k
    · rw [if_pos hsk] at hsc
      generalize S.second = sd at g2 hsk
      generalize S.stop = st at g2 g3 hsc
      repeat' (first | ((with_reducible first | apply o_move | apply o_assign | apply o_faddr0); exact rfl; exact rfl) | ((with_reducible apply gdo_load); first | refine wo_load (h := ?_) | refine wo_loadAll (h := ?_) | refine wo_loadC (h := ?_) | refine wo_ldV (h := ?_) | refine wo_ldF (h := ?_)) | ((with_reducible first | apply o_lss | apply o_leq | apply o_gtr | apply o_eql | apply o_neq | apply o_extract); exact rfl; exact rfl; exact rfl) | ((with_reducible apply o_len); infer_instance; exact rfl; exact rfl) | ((with_reducible first | apply c_seq | apply c_block | apply c_region | apply c_nil | apply c_ret | apply c_exit | apply c_unroll | apply c_skip)) | ((with_reducible apply c_cond_t); exact rfl; exact tT_) | ((with_reducible first | apply e_then | apply e_then_ret | apply e_then_exit | apply e_in | apply e_in_ret | apply e_in_same)))
      apply c_loop (σ := Nat × (Option Addr × Nat) × List Ent) (Fs := fun t => [(17, .int .i64 t.1), (16, .int .i64 z), (14, .slice t.2.1.1 (R ++ stopRow items st t.1).length t.2.1.2), (13, .int .i64 k), (12, ptr b12), (5, .int .i64 0), (4, ptr b4), (2, ptr b2), (1, .slice ai items.length ci)])
        (Ls := fun t => t.2.2 ++ (⟨b12, Ce [.slice a_ (sf ++ [(al, FR.length, cl)]).length cp_, .slice as2 ss2.length cs2, .slice ao (rowsS p items k).flatten.length co] 71, true⟩ :: (N_ ++ (MF ++ (NL ++ (N2 ++ (M2 ++ (NO ++ [⟨b4, Ce [.slice none 0 0, .slice none 0 0, .slice none 0 0] 71, true⟩, ⟨b2, Ce [.slice a1 p.caps.length c1, .slice (some ⟨bs, offs, none⟩) p.seats.length c2, .slice a3 p.first.length c3, .slice a4 p.second.length c4] 31, true⟩]))))))))
        (I := fun t => t.1 ≤ items.length ∧ OW 3 1 encN (.slice t.2.1.1 (R ++ stopRow items st t.1).length t.2.1.2) (R ++ stopRow items st t.1) t.2.2) (μ := fun t => items.length - t.1) (s0 := (0, (aq, cq), NQ))
      · refine ⟨Nat.zero_le _, ?_⟩
        have e0 : R ++ stopRow items st 0 = R := by simp [stopRow]
        dsimp only
        rw [e0]; exact hQ
      · have e0 : R ++ stopRow items st 0 = R := by simp [stopRow]
        dsimp only
        rw [e0]; (repeat (first | exact FSub.nil | refine FSub.cons rfl ?_))
      · ((try dsimp only); repeat (first | exact HSub.nil rfl | (apply HSub.take; (repeat (first | exact Rem.hd | apply Rem.tl | apply Rem.right))) | exact HSub.same | (apply HSub.takeL; ((focus (repeat (first | exact RemL.hd | exact RemL.all | exact RemL.nil | apply RemL.tl | apply RemL.right))) <;> done)) | apply HSub.drop | (apply HSub.takeL; (focus ((repeat (first | exact RemL.hd | exact RemL.all | exact RemL.nil | apply RemL.tl | apply RemL.right))))) | (apply HSub.takeA; (first | exact RemL.hd | exact RemL.all); ((focus (repeat (first | exact AO.nil | apply AO.cons | (apply AO.app; assumption)))) <;> done)) | (apply HSub.dropL; assumption) | (apply HSub.takeA; (focus ((repeat (first | exact RemL.hd | exact RemL.all | exact RemL.nil | apply RemL.tl | apply RemL.right)))); ((focus (repeat (first | exact AO.nil | apply AO.cons | (apply AO.app; assumption)))) <;> done)) | (apply HSub.nilA; ((focus (repeat (first | exact AO.nil | apply AO.cons | (apply AO.app; assumption)))) <;> done))))
      rintro ⟨i, ⟨ax, cx⟩, NX⟩ ⟨hi3, hX⟩
      dsimp only at hi3 hX ⊢
      have oX := hX.own
      by_cases hlt3 : i < items.length
      · obtain ⟨x, hx⟩ : ∃ x, items[i]? = some x := ⟨_, List.getElem?_eq_getElem hlt3⟩
        obtain ⟨bi, offi, ci', ei, fzi, rfl, hki, hpi⟩ := hopi (by omega)
        have g1 := hpi.one hx rfl
        have hss := stopRow_succ (x := st) hx
        have hsb := stopRow_len items st i
        have hxl : (R ++ stopRow items st i).length ≤ 2002000 := by rw [List.length_append]; omega
        by_cases hxs : x = st
        · rw [if_pos hxs] at hss
          have hss2 : R ++ stopRow items st (i + 1) = (R ++ stopRow items st i) ++ [i] := by rw [hss, List.append_assoc]
          generalize R ++ stopRow items st i = R2 at hX hss2 hxl ⊢
          as_aux_lemma =>
            repeat' (first | (apply o_appH (enc := encN) (ys := [(i)]); infer_instance; infer_instance; infer_instance; exact rfl; exact encN_len; exact encN_one; exact rfl; exact rfl; exact rfl; assumption; (repeat (first | exact RemL.hd | exact RemL.all | exact RemL.nil | apply RemL.tl | apply RemL.right)); (exact fun w hw => SV.lit [(i)] encN_len hw (by ((focus (repeat (first | assumption | exact At.hd | refine At.tl ?_ | (refine At.left ?_; assumption) | refine At.right ?_))) <;> done)) rfl rfl (by decide)); (first | decide | (constructor <;> (try simp only [List.length_cons, List.length_nil]) <;> omega) | (constructor <;> simp <;> omega)); intro a_ cp_ N_ hO_; have oN_ := hO_.own; (try simp only [List.nil_append, List.append_assoc] at hO_); (try simp only [List.append_eq, List.append_assoc, List.cons_append, List.nil_append])) | ((with_reducible first | apply o_move | apply o_assign | apply o_faddr0); exact rfl; exact rfl) | ((with_reducible apply o_faddr); exact rfl; exact rfl) | ((with_reducible apply gdo_load); first | refine wo_load (h := ?_) | refine wo_loadAll (h := ?_) | refine wo_loadC (h := ?_) | refine wo_ldV (h := ?_) | refine wo_ldF (h := ?_)) | ((with_reducible first | apply o_lss | apply o_leq | apply o_gtr | apply o_eql | apply o_neq | apply o_extract); exact rfl; exact rfl; exact rfl) | ((with_reducible apply o_add); exact rfl; exact rfl; exact rfl; (constructor <;> omega)) | ((with_reducible apply o_pick_t); exact rfl; exact tT_; exact rfl; exact rfl) | ((with_reducible apply o_len); infer_instance; exact rfl; exact rfl) | ((with_reducible apply gdo_buildSlice); refine wo_buildSlice (h := fun _ => ?_)) | ((with_reducible apply o_idx); infer_instance; infer_instance; exact rfl; exact rfl; (first | exact rfl | omega); exact rfl; (first | assumption | omega | decide)) | ((with_reducible first | apply g_run | apply g_skip_none); exact rfl; exact gG_) | ((with_reducible first | apply c_seq | apply c_block | apply c_region | apply c_nil | apply c_ret | apply c_exit | apply c_unroll | apply c_skip)) | ((with_reducible apply c_cond_t); exact rfl; exact tT_) | ((with_reducible first | apply e_then | apply e_then_ret | apply e_then_exit | apply e_in | apply e_in_ret | apply e_in_same)) | ((with_reducible apply c_regionD0 (id := 38) []); kernel_rfl; kernel_rfl) | ((with_reducible apply q_nil); try simp only [ents, List.cons_append, List.nil_append]) | ((with_reducible first | apply q_move | apply q_assign | apply q_faddr0); exact rfl; exact rfl) | ((with_reducible apply q_faddr); exact rfl; exact rfl) | ((with_reducible apply gdq_load); first | refine wq_load (h := ?_) | refine wq_loadAll (h := ?_) | refine wq_loadC (h := ?_) | refine wq_ldV (h := ?_) | refine wq_ldF (h := ?_)) | ((with_reducible first | apply q_lss | apply q_leq | apply q_gtr | apply q_eql | apply q_neq | apply q_extract); exact rfl; exact rfl; exact rfl) | ((with_reducible apply q_idx); infer_instance; infer_instance; exact rfl; exact rfl; (first | exact rfl | omega); exact rfl; (first | assumption | omega | decide)))
            refine l_again (i + 1, (a_, cp_), N_) ⟨by dsimp only; omega, by dsimp only; rw [hss2]; exact hO_⟩ (by dsimp only; omega) ?_ ?_
            · dsimp only; rw [hss2]; (repeat (first | exact FSub.nil | refine FSub.cons rfl ?_))
            · ((try dsimp only); repeat (first | exact HSub.nil rfl | (apply HSub.take; (repeat (first | exact Rem.hd | apply Rem.tl | apply Rem.right))) | exact HSub.same | (apply HSub.takeL; ((focus (repeat (first | exact RemL.hd | exact RemL.all | exact RemL.nil | apply RemL.tl | apply RemL.right))) <;> done)) | apply HSub.drop | (apply HSub.takeL; (focus ((repeat (first | exact RemL.hd | exact RemL.all | exact RemL.nil | apply RemL.tl | apply RemL.right))))) | (apply HSub.takeA; (first | exact RemL.hd | exact RemL.all); ((focus (repeat (first | exact AO.nil | apply AO.cons | (apply AO.app; assumption)))) <;> done)) | (apply HSub.dropL; assumption) | (apply HSub.takeA; (focus ((repeat (first | exact RemL.hd | exact RemL.all | exact RemL.nil | apply RemL.tl | apply RemL.right)))); ((focus (repeat (first | exact AO.nil | apply AO.cons | (apply AO.app; assumption)))) <;> done)) | (apply HSub.nilA; ((focus (repeat (first | exact AO.nil | apply AO.cons | (apply AO.app; assumption)))) <;> done))))
        · rw [if_neg hxs, List.append_nil] at hss
          as_aux_lemma =>
            repeat' (first | ((with_reducible first | apply o_move | apply o_assign | apply o_faddr0); exact rfl; exact rfl) | ((with_reducible apply o_faddr); exact rfl; exact rfl) | ((with_reducible apply gdo_load); first | refine wo_load (h := ?_) | refine wo_loadAll (h := ?_) | refine wo_loadC (h := ?_) | refine wo_ldV (h := ?_) | refine wo_ldF (h := ?_)) | ((with_reducible first | apply o_lss | apply o_leq | apply o_gtr | apply o_eql | apply o_neq | apply o_extract); exact rfl; exact rfl; exact rfl) | ((with_reducible apply o_add); exact rfl; exact rfl; exact rfl; (constructor <;> omega)) | ((with_reducible apply o_pick_t); exact rfl; exact tT_; exact rfl; exact rfl) | ((with_reducible apply o_len); infer_instance; exact rfl; exact rfl) | ((with_reducible apply o_idx); infer_instance; infer_instance; exact rfl; exact rfl; (first | exact rfl | omega); exact rfl; (first | assumption | omega | decide)) | ((with_reducible first | apply g_run | apply g_skip_none); exact rfl; exact gG_) | ((with_reducible first | apply c_seq | apply c_block | apply c_region | apply c_nil | apply c_ret | apply c_exit | apply c_unroll | apply c_skip)) | ((with_reducible apply c_cond_t); exact rfl; exact tT_) | ((with_reducible apply c_cond_f); exact rfl; exact fF_) | ((with_reducible first | apply e_then | apply e_then_ret | apply e_then_exit | apply e_in | apply e_in_ret | apply e_in_same)) | ((with_reducible apply c_regionD0 (id := 38) []); kernel_rfl; kernel_rfl) | ((with_reducible apply q_nil); try simp only [ents, List.cons_append, List.nil_append]) | ((with_reducible first | apply q_move | apply q_assign | apply q_faddr0); exact rfl; exact rfl) | ((with_reducible apply q_faddr); exact rfl; exact rfl) | ((with_reducible apply gdq_load); first | refine wq_load (h := ?_) | refine wq_loadAll (h := ?_) | refine wq_loadC (h := ?_) | refine wq_ldV (h := ?_) | refine wq_ldF (h := ?_)) | ((with_reducible first | apply q_lss | apply q_leq | apply q_gtr | apply q_eql | apply q_neq | apply q_extract); exact rfl; exact rfl; exact rfl) | ((with_reducible apply q_idx); infer_instance; infer_instance; exact rfl; exact rfl; (first | exact rfl | omega); exact rfl; (first | assumption | omega | decide)))
            refine l_again (i + 1, (ax, cx), NX) ⟨by dsimp only; omega, by dsimp only; rw [hss]; exact hX⟩ (by dsimp only; omega) ?_ ?_
            · dsimp only; rw [hss]; (repeat (first | exact FSub.nil | refine FSub.cons rfl ?_))
            · ((try dsimp only); repeat (first | exact HSub.nil rfl | (apply HSub.take; (repeat (first | exact Rem.hd | apply Rem.tl | apply Rem.right))) | exact HSub.same | (apply HSub.takeL; ((focus (repeat (first | exact RemL.hd | exact RemL.all | exact RemL.nil | apply RemL.tl | apply RemL.right))) <;> done)) | apply HSub.drop | (apply HSub.takeL; (focus ((repeat (first | exact RemL.hd | exact RemL.all | exact RemL.nil | apply RemL.tl | apply RemL.right))))) | (apply HSub.takeA; (first | exact RemL.hd | exact RemL.all); ((focus (repeat (first | exact AO.nil | apply AO.cons | (apply AO.app; assumption)))) <;> done)) | (apply HSub.dropL; assumption) | (apply HSub.takeA; (focus ((repeat (first | exact RemL.hd | exact RemL.all | exact RemL.nil | apply RemL.tl | apply RemL.right)))); ((focus (repeat (first | exact AO.nil | apply AO.cons | (apply AO.app; assumption)))) <;> done)) | (apply HSub.nilA; ((focus (repeat (first | exact AO.nil | apply AO.cons | (apply AO.app; assumption)))) <;> done))))
      · obtain rfl : i = items.length := by omega
        rw [← hsc] at hX ⊢
        as_aux_lemma =>
          repeat' (first | ((with_reducible first | apply o_move | apply o_assign | apply o_faddr0); exact rfl; exact rfl) | ((with_reducible first | apply o_lss | apply o_leq | apply o_gtr | apply o_eql | apply o_neq | apply o_extract); exact rfl; exact rfl; exact rfl) | ((with_reducible apply o_add); exact rfl; exact rfl; exact rfl; (constructor <;> omega)) | ((with_reducible apply o_pick_f); exact rfl; exact fF_; exact rfl; exact rfl) | ((with_reducible apply o_len); infer_instance; exact rfl; exact rfl) | ((with_reducible apply g_skip); exact rfl; exact gG_; exact rfl) | ((with_reducible first | apply c_seq | apply c_block | apply c_region | apply c_nil | apply c_ret | apply c_exit | apply c_unroll | apply c_skip)) | ((with_reducible apply c_cond_f); exact rfl; exact fF_) | ((with_reducible first | apply e_then | apply e_then_ret | apply e_then_exit | apply e_in | apply e_in_ret | apply e_in_same)))
          refine l_again (z + 1, (ax, cx), NX) ⟨by dsimp only; omega, hX⟩ (by dsimp only; omega) ?_ ?_
          · (repeat (first | exact FSub.nil | refine FSub.cons rfl ?_))
          · ((try dsimp only); repeat (first | exact HSub.nil rfl | (apply HSub.take; (repeat (first | exact Rem.hd | apply Rem.tl | apply Rem.right))) | exact HSub.same | (apply HSub.takeL; ((focus (repeat (first | exact RemL.hd | exact RemL.all | exact RemL.nil | apply RemL.tl | apply RemL.right))) <;> done)) | apply HSub.drop | (apply HSub.takeL; (focus ((repeat (first | exact RemL.hd | exact RemL.all | exact RemL.nil | apply RemL.tl | apply RemL.right))))) | (apply HSub.takeA; (first | exact RemL.hd | exact RemL.all); ((focus (repeat (first | exact AO.nil | apply AO.cons | (apply AO.app; assumption)))) <;> done)) | (apply HSub.dropL; assumption) | (apply HSub.takeA; (focus ((repeat (first | exact RemL.hd | exact RemL.all | exact RemL.nil | apply RemL.tl | apply RemL.right)))); ((focus (repeat (first | exact AO.nil | apply AO.cons | (apply AO.app; assumption)))) <;> done)) | (apply HSub.nilA; ((focus (repeat (first | exact AO.nil | apply AO.cons | (apply AO.app; assumption)))) <;> done))))
    · rw [if_neg hsk, List.append_nil] at hsc
      generalize S.second = sd at g2 hsk
      repeat' (first | ((with_reducible first | apply o_move | apply o_assign | apply o_faddr0); exact rfl; exact rfl) | ((with_reducible apply gdo_load); first | refine wo_load (h := ?_) | refine wo_loadAll (h := ?_) | refine wo_loadC (h := ?_) | refine wo_ldV (h := ?_) | refine wo_ldF (h := ?_)) | ((with_reducible first | apply o_lss | apply o_leq | apply o_gtr | apply o_eql | apply o_neq | apply o_extract); exact rfl; exact rfl; exact rfl) | ((with_reducible apply o_len); infer_instance; exact rfl; exact rfl) | ((with_reducible first | apply c_seq | apply c_block | apply c_region | apply c_nil | apply c_ret | apply c_exit | apply c_unroll | apply c_skip)) | ((with_reducible apply c_cond_t); exact rfl; exact tT_) | ((with_reducible first | apply e_then | apply e_then_ret | apply e_then_exit | apply e_in | apply e_in_ret | apply e_in_same)))
      apply c_loop (σ := Unit) (Fs := fun _ => [(17, .int .i64 0), (16, .int .i64 z), (14, .slice aq R.length cq), (13, .int .i64 k), (12, ptr b12), (5, .int .i64 0), (4, ptr b4), (2, ptr b2), (1, .slice ai items.length ci)])
        (Ls := fun _ => NQ ++ (⟨b12, Ce [.slice a_ (sf ++ [(al, FR.length, cl)]).length cp_, .slice as2 ss2.length cs2, .slice ao (rowsS p items k).flatten.length co] 71, true⟩ :: (N_ ++ (MF ++ (NL ++ (N2 ++ (M2 ++ (NO ++ [⟨b4, Ce [.slice none 0 0, .slice none 0 0, .slice none 0 0] 71, true⟩, ⟨b2, Ce [.slice a1 p.caps.length c1, .slice (some ⟨bs, offs, none⟩) p.seats.length c2, .slice a3 p.first.length c3, .slice a4 p.second.length c4] 31, true⟩]))))))))
        (I := fun _ => True) (μ := fun _ => 0) (s0 := ())
      · trivial
      · (repeat (first | exact FSub.nil | refine FSub.cons rfl ?_))
      · ((try dsimp only); repeat (first | exact HSub.nil rfl | (apply HSub.take; (repeat (first | exact Rem.hd | apply Rem.tl | apply Rem.right))) | exact HSub.same | (apply HSub.takeL; ((focus (repeat (first | exact RemL.hd | exact RemL.all | exact RemL.nil | apply RemL.tl | apply RemL.right))) <;> done)) | apply HSub.drop | (apply HSub.takeL; (focus ((repeat (first | exact RemL.hd | exact RemL.all | exact RemL.nil | apply RemL.tl | apply RemL.right))))) | (apply HSub.takeA; (first | exact RemL.hd | exact RemL.all); ((focus (repeat (first | exact AO.nil | apply AO.cons | (apply AO.app; assumption)))) <;> done)) | (apply HSub.dropL; assumption) | (apply HSub.takeA; (focus ((repeat (first | exact RemL.hd | exact RemL.all | exact RemL.nil | apply RemL.tl | apply RemL.right)))); ((focus (repeat (first | exact AO.nil | apply AO.cons | (apply AO.app; assumption)))) <;> done)) | (apply HSub.nilA; ((focus (repeat (first | exact AO.nil | apply AO.cons | (apply AO.app; assumption)))) <;> done))))
      rintro ⟨⟩ -
      rcases Nat.eq_zero_or_pos items.length with h0 | h0
      all_goals
        as_aux_lemma =>
          repeat' (first | ((with_reducible first | apply o_move | apply o_assign | apply o_faddr0); exact rfl; exact rfl) | ((with_reducible apply o_faddr); exact rfl; exact rfl) | ((with_reducible apply gdo_load); first | refine wo_load (h := ?_) | refine wo_loadAll (h := ?_) | refine wo_loadC (h := ?_) | refine wo_ldV (h := ?_) | refine wo_ldF (h := ?_)) | ((with_reducible first | apply o_lss | apply o_leq | apply o_gtr | apply o_eql | apply o_neq | apply o_extract); exact rfl; exact rfl; exact rfl) | ((with_reducible apply o_add); exact rfl; exact rfl; exact rfl; (constructor <;> omega)) | ((with_reducible apply o_pick_t); exact rfl; exact tT_; exact rfl; exact rfl) | ((with_reducible apply o_pick_f); exact rfl; exact fF_; exact rfl; exact rfl) | ((with_reducible apply o_len); infer_instance; exact rfl; exact rfl) | ((with_reducible apply o_idx); infer_instance; infer_instance; exact rfl; exact rfl; (first | exact rfl | omega); exact rfl; (first | assumption | omega | decide)) | ((with_reducible first | apply g_run | apply g_skip_none); exact rfl; exact gG_) | ((with_reducible apply g_skip); exact rfl; exact gG_; exact rfl) | ((with_reducible first | apply c_seq | apply c_block | apply c_region | apply c_nil | apply c_ret | apply c_exit | apply c_unroll | apply c_skip)) | ((with_reducible apply c_cond_f); exact rfl; exact fF_) | ((with_reducible first | apply e_then | apply e_then_ret | apply e_then_exit | apply e_in | apply e_in_ret | apply e_in_same)))
          refine l_again (z + 1, (aq, cq), NQ) ⟨by dsimp only; omega, by dsimp only; rw [hsc]; exact hQ⟩ (by dsimp only; omega) ?_ ?_
          · dsimp only; rw [hsc]; (repeat (first | exact FSub.nil | refine FSub.cons rfl ?_))
          · ((try dsimp only); repeat (first | exact HSub.nil rfl | (apply HSub.take; (repeat (first | exact Rem.hd | apply Rem.tl | apply Rem.right))) | exact HSub.same | (apply HSub.takeL; ((focus (repeat (first | exact RemL.hd | exact RemL.all | exact RemL.nil | apply RemL.tl | apply RemL.right))) <;> done)) | apply HSub.drop | (apply HSub.takeL; (focus ((repeat (first | exact RemL.hd | exact RemL.all | exact RemL.nil | apply RemL.tl | apply RemL.right))))) | (apply HSub.takeA; (first | exact RemL.hd | exact RemL.all); ((focus (repeat (first | exact AO.nil | apply AO.cons | (apply AO.app; assumption)))) <;> done)) | (apply HSub.dropL; assumption) | (apply HSub.takeA; (focus ((repeat (first | exact RemL.hd | exact RemL.all | exact RemL.nil | apply RemL.tl | apply RemL.right)))); ((focus (repeat (first | exact AO.nil | apply AO.cons | (apply AO.app; assumption)))) <;> done)) | (apply HSub.nilA; ((focus (repeat (first | exact AO.nil | apply AO.cons | (apply AO.app; assumption)))) <;> done))))
  · obtain rfl : z = p.seats.length := by omega
    rw [List.take_length] at hQ ⊢
    have hsl2 := secR_len items k p.seats
    have hslb : (Seq.secR p.seats items k).length ≤ 2000000 := by
      have : p.seats.length * items.length ≤ 1000 * 2000 := Nat.mul_le_mul hsl hil
      omega
    have hSL' := hSL.snoc (s := (aq, (Seq.secR p.seats items k).length, cq)) hQ
    rw [← rowsS_succ] at hSL'
    have hssl : ss2.length = k := by rw [hSL.len]; simp [rowsS]
    have hfk : (rowsS p items (k + 1)).flatten = (rowsS p items k).flatten ++ Seq.secR p.seats items k := by rw [rowsS_succ, List.flatten_append]; simp
    have hord : (rowsS p items k).flatten.length ≤ 200000000 := by
      have h1 := rowsS_flat p items k
      have h2 : p.seats.length * items.length ≤ 1000 * 2000 := Nat.mul_le_mul hsl hil
      have h3 : k * (p.seats.length * items.length) ≤ 64 * (1000 * 2000) := Nat.mul_le_mul (by omega) h2
      omega
    generalize Seq.secR p.seats items k = SR at hQ hslb hSL' hfk ⊢
    generalize (rowsS p items k).flatten = OR at hO hfk hord ⊢
    as_aux_lemma =>
      repeat' (first | (apply o_appH (enc := encS) (ys := [((aq, SR.length, cq) : SD)]); infer_instance; infer_instance; infer_instance; exact rfl; exact encS_len; exact encS_one; exact rfl; exact rfl; exact rfl; assumption; (repeat (first | exact RemL.hd | exact RemL.all | exact RemL.nil | apply RemL.tl | apply RemL.right)); (exact fun w hw => SV.lit [((aq, SR.length, cq) : SD)] encS_len hw (by ((focus (repeat (first | assumption | exact At.hd | refine At.tl ?_ | (refine At.left ?_; assumption) | refine At.right ?_))) <;> done)) rfl rfl (by decide)); (first | decide | (constructor <;> (try simp only [List.length_cons, List.length_nil]) <;> omega) | (constructor <;> simp <;> omega)); intro a5_ c5_ N5_ h5_; have o5_ := h5_.own; (try simp only [List.nil_append, List.append_assoc] at h5_); (try simp only [List.append_eq, List.append_assoc, List.cons_append, List.nil_append])) | (apply o_appH (enc := encN); infer_instance; infer_instance; infer_instance; exact rfl; exact encN_len; exact encN_one; exact rfl; exact rfl; exact rfl; assumption; (repeat (first | exact RemL.hd | exact RemL.all | exact RemL.nil | apply RemL.tl | apply RemL.right)); (exact fun w hw => (hQ.sv encN_len (by (repeat (first | exact RemL.hd | exact RemL.all | exact RemL.nil | apply RemL.tl | apply RemL.right))) hw)); (first | decide | (constructor <;> (try simp only [List.length_cons, List.length_nil]) <;> omega) | (constructor <;> simp <;> omega)); intro a6_ c6_ N6_ h6_; have o6_ := h6_.own; (try simp only [List.nil_append, List.append_assoc] at h6_); (try simp only [List.append_eq, List.append_assoc, List.cons_append, List.nil_append])) | ((with_reducible first | apply o_move | apply o_assign | apply o_faddr0); exact rfl; exact rfl) | ((with_reducible apply gdo_load); first | refine wo_load (h := ?_) | refine wo_loadAll (h := ?_) | refine wo_loadC (h := ?_) | refine wo_ldV (h := ?_) | refine wo_ldF (h := ?_)) | ((with_reducible first | apply o_lss | apply o_leq | apply o_gtr | apply o_eql | apply o_neq | apply o_extract); exact rfl; exact rfl; exact rfl) | ((with_reducible apply o_add); exact rfl; exact rfl; exact rfl; (constructor <;> omega)) | ((with_reducible apply gdo_store); first | refine wo_store1 (h := ?_) | refine wo_storeA (h := ?_)) | ((with_reducible apply o_len); infer_instance; exact rfl; exact rfl) | ((with_reducible apply gdo_buildSlice); refine wo_buildSlice (h := fun _ => ?_)) | ((with_reducible first | apply c_seq | apply c_block | apply c_region | apply c_nil | apply c_ret | apply c_exit | apply c_unroll | apply c_skip)) | ((with_reducible apply c_cond_f); exact rfl; exact fF_) | ((with_reducible first | apply e_then | apply e_then_ret | apply e_then_exit | apply e_in | apply e_in_ret | apply e_in_same)))
      refine l_again ⟨k + 1, a_, cp_, sf ++ [(al, FR.length, cl)], N_, MF ++ NL, a5_, c5_, ss2 ++ [(aq, SR.length, cq)], N5_, M2 ++ NQ, a6_, c6_, N6_⟩ ⟨by dsimp only; omega, hO_, hFL', h5_, hSL', by dsimp only; rw [hfk]; exact h6_⟩ (by dsimp only; omega) ?_ ?_
      · (repeat (first | exact FSub.nil | refine FSub.cons rfl ?_))
      · dsimp only; rw [hfk]; simp only [List.append_assoc]; ((try dsimp only); repeat (first | exact HSub.nil rfl | (apply HSub.take; (repeat (first | exact Rem.hd | apply Rem.tl | apply Rem.right))) | exact HSub.same | (apply HSub.takeL; ((focus (repeat (first | exact RemL.hd | exact RemL.all | exact RemL.nil | apply RemL.tl | apply RemL.right))) <;> done)) | apply HSub.drop | (apply HSub.takeL; (focus ((repeat (first | exact RemL.hd | exact RemL.all | exact RemL.nil | apply RemL.tl | apply RemL.right))))) | (apply HSub.takeA; (first | exact RemL.hd | exact RemL.all); ((focus (repeat (first | exact AO.nil | apply AO.cons | (apply AO.app; assumption)))) <;> done)) | (apply HSub.dropL; assumption) | (apply HSub.takeA; (focus ((repeat (first | exact RemL.hd | exact RemL.all | exact RemL.nil | apply RemL.tl | apply RemL.right)))); ((focus (repeat (first | exact AO.nil | apply AO.cons | (apply AO.app; assumption)))) <;> done)) | (apply HSub.nilA; ((focus (repeat (first | exact AO.nil | apply AO.cons | (apply AO.app; assumption)))) <;> done))))
end Go.Proofs.Yteilhjglohahoaa
