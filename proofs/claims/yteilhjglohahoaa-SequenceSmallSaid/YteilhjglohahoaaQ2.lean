/-
  A part of the proofs of this seat: what some of the program's functions compute, shown by walks through their code. Conditions: the hypotheses that each theorem names. (Its blocks of tactics were laid by a small program.)
-/
import Derived.Test.YteilhjglohahoaaQ1
set_option linter.unusedSimpArgs false
set_option linter.unusedVariables false
namespace Go.Proofs.Yteilhjglohahoaa
open Go Go.Sx Go.RowKit
attribute [local irreducible] WL WC WQ WR St Exit.then Exit.inBlock Exit.noGoto bodyPost roundPost beginK YR RG BM Calls B
/-! ## loads, stackers -/
theorem zeros_row (n : Nat) : (List.replicate n [Value.int .i64 0]).flatten = (List.replicate n (0 : Int)).flatMap encI ++ [] := by
  rw [List.append_nil, List.flatMap_def, List.map_replicate]
  rfl
theorem loads_step {g : Seq.Seat → Int} {n k i : Nat} {l : List Seq.Seat} {s : Seq.Seat} {z : Int} (hx : l[i]? = some s) (hk : g s = k) (hz : (Seq.loadsF g n (l.take i))[k]? = some z) :
    (Seq.loadsF g n (l.take i)).set k (z + s.vol) = Seq.loadsF g n (l.take (i + 1)) := by
  rw [take_snoc hx, Seq.loadsF_snoc, hk, Seq.addAt]
  simp [hz]
theorem loads_calls {v : Value} {l : List Seq.Seat} {n : Nat} (w : World) (h : SV w 4 encSeat v l) (hl : l.length ≤ 1000) (hn : n ≤ 64) (hs : ∀ s ∈ l, (0 ≤ s.first ∧ s.first < n) ∧ (0 ≤ s.second ∧ s.second < n) ∧ (0 ≤ s.vol ∧ s.vol ≤ 10000)) :
    Calls Try.prog 38 #[v, .int .i64 n] w fun e w' => ∃ v' N, e = .returned v' ∧ (∃ a1 k1 a2 k2 N1 N2, v' = .tuple #[.slice a1 n k1, .slice a2 n k2] ∧ OW 3 1 encI (.slice a1 n k1) (Seq.loadsF Seq.Seat.first n l) N1 ∧ OW 3 1 encI (.slice a2 n k2) (Seq.loadsF Seq.Seat.second n l) N2 ∧ N = N1 ++ N2 ∧ (∀ x ∈ N1, x.own = true) ∧ ∀ x ∈ N2, x.own = true) ∧ Rep w w' N ∧ ∀ x ∈ N, x.own = true := by
  obtain ⟨a0, ca, rfl, hca, hop⟩ := h.open
  refine f_enter2 Try.func38 rfl Try.ntmps38 rfl (Rep.start w) ?_
  repeat' (first | ((with_reducible first | apply o_move | apply o_assign | apply o_faddr0); exact rfl; exact rfl) | ((with_reducible apply o_len); infer_instance; exact rfl; exact rfl) | ((with_reducible first | apply c_seq | apply c_block | apply c_region | apply c_nil | apply c_ret | apply c_exit | apply c_unroll | apply c_skip)) | ((with_reducible first | apply e_then | apply e_then_ret | apply e_then_exit | apply e_in | apply e_in_ret | apply e_in_same)) | ((with_reducible apply c_regionD0 (id := 1) []); kernel_rfl; kernel_rfl) | ((with_reducible apply q_nil); try simp only [ents, List.cons_append, List.nil_append]) | ((with_reducible first | apply q_move | apply q_assign | apply q_faddr0); exact rfl; exact rfl) | ((with_reducible apply gdq_makeSlice); refine wq_makeSlice (h := fun _ => ?_)))
  rename_i b1 b2
  simp only [zeros_row]
  apply c_loop (σ := Nat × List Int × List Int) (Fs := fun s => [(16, .int .i64 s.1), (15, .int .i64 l.length), (14, .slice a0 l.length ca), (6, slc b1 n), (7, slc b2 n)])
    (Ls := fun s => [⟨b1, Ce (s.2.1.flatMap encI ++ []) 3, true⟩, ⟨b2, Ce (s.2.2.flatMap encI ++ []) 3, true⟩])
    (I := fun s => s.1 ≤ l.length ∧ s.2.1 = Seq.loadsF Seq.Seat.first n (l.take s.1) ∧ s.2.2 = Seq.loadsF Seq.Seat.second n (l.take s.1)) (μ := fun s => l.length - s.1) (s0 := (0, List.replicate n 0, List.replicate n 0))
  · exact ⟨Nat.zero_le _, by simp [Seq.loadsF_nil], by simp [Seq.loadsF_nil]⟩
  · (repeat (first | exact FSub.nil | refine FSub.cons rfl ?_))
  · ((try dsimp only); repeat (first | exact HSub.nil rfl | (apply HSub.take; (repeat (first | exact Rem.hd | apply Rem.tl | apply Rem.right))) | exact HSub.same | (apply HSub.takeL; ((focus (repeat (first | exact RemL.hd | exact RemL.all | exact RemL.nil | apply RemL.tl | apply RemL.right))) <;> done)) | apply HSub.drop | (apply HSub.takeL; (focus ((repeat (first | exact RemL.hd | exact RemL.all | exact RemL.nil | apply RemL.tl | apply RemL.right))))) | (apply HSub.takeA; (first | exact RemL.hd | exact RemL.all); ((focus (repeat (first | exact AO.nil | apply AO.cons | (apply AO.app; assumption)))) <;> done)) | (apply HSub.dropL; assumption) | (apply HSub.takeA; (focus ((repeat (first | exact RemL.hd | exact RemL.all | exact RemL.nil | apply RemL.tl | apply RemL.right)))); ((focus (repeat (first | exact AO.nil | apply AO.cons | (apply AO.app; assumption)))) <;> done)) | (apply HSub.nilA; ((focus (repeat (first | exact AO.nil | apply AO.cons | (apply AO.app; assumption)))) <;> done))))
  rintro ⟨i, R1, R2⟩ ⟨hi, hR1, hR2⟩
  simp only [] at hi hR1 hR2 ⊢
  have n1 : R1.length = n := by rw [hR1, Seq.loadsF_len]
  have n2 : R2.length = n := by rw [hR2, Seq.loadsF_len]
  by_cases hlt : i < l.length
  · obtain ⟨s, hx⟩ : ∃ s, l[i]? = some s := ⟨_, List.getElem?_eq_getElem hlt⟩
    obtain ⟨b, off, cc, e, fz, rfl, hk, hp⟩ := hop (by omega)
    obtain ⟨st, vo, fi, se⟩ := s
    obtain ⟨hf, hse, hvo⟩ := hs _ (List.mem_of_getElem? hx)
    simp only [] at hf hse hvo
    obtain ⟨f, rfl⟩ := Int.eq_ofNat_of_zero_le hf.1
    obtain ⟨d, rfl⟩ := Int.eq_ofNat_of_zero_le hse.1
    have h1 : ∀ j u, ([.int .i64 st, .int .i64 vo, .int .i64 f, .int .i64 d] : List Value)[j]? = some u → cc[off + i * 4 + j]? = some u := hp.get hx
    have hb : ∀ g k, 0 ≤ Seq.loadOf g k (l.take i) ∧ Seq.loadOf g k (l.take i) ≤ 10000000 := fun g k => by
      have := Seq.loadOf_bounds g k (l := l.take i) (fun s hs' => (hs s (List.mem_of_mem_take hs')).2.2)
      have h2 : ((l.take i).length : Int) ≤ 1000 := by rw [List.length_take]; omega
      omega
    have z1 : R1[f]? = some (Seq.loadOf Seq.Seat.first f (l.take i)) := by rw [hR1]; exact Seq.loadsF_get _ (by omega) _
    have z2 : R2[d]? = some (Seq.loadOf Seq.Seat.second d (l.take i)) := by rw [hR2]; exact Seq.loadsF_get _ (by omega) _
    have b1' := hb Seq.Seat.first f
    have b2' := hb Seq.Seat.second d
    generalize Seq.loadOf Seq.Seat.first f (l.take i) = y1 at z1 b1'
    generalize Seq.loadOf Seq.Seat.second d (l.take i) = y2 at z2 b2'
    have g1 := (Pat.flat encI_len R1 []).one z1 rfl
    have g2 := (Pat.flat encI_len R2 []).one z2 rfl
    repeat' (first | ((apply q_storeS (enc := encI) (kl := 1) (m := f) (o := 0) (xs := R1) (z := y1) (y1 + vo)); infer_instance; exact rfl; exact rfl; ((focus (repeat (first | assumption | exact At.hd | refine At.tl ?_ | (refine At.left ?_; assumption) | refine At.right ?_))) <;> done); exact z1; exact encI_len; omega; exact rfl; exact rfl; (intro u hu; simp at hu; subst hu; rfl); (exact Nat.le_refl _); exact rfl; (repeat (first | exact Upd.hd | apply Upd.tl | apply Upd.right))) | ((apply q_storeS (enc := encI) (kl := 1) (m := d) (o := 0) (xs := R2) (z := y2) (y2 + vo)); infer_instance; exact rfl; exact rfl; ((focus (repeat (first | assumption | exact At.hd | refine At.tl ?_ | (refine At.left ?_; assumption) | refine At.right ?_))) <;> done); exact z2; exact encI_len; omega; exact rfl; exact rfl; (intro u hu; simp at hu; subst hu; rfl); (exact Nat.le_refl _); exact rfl; (repeat (first | exact Upd.hd | apply Upd.tl | apply Upd.right))) | ((with_reducible first | apply o_move | apply o_assign | apply o_faddr0); exact rfl; exact rfl) | ((with_reducible apply gdo_load); first | refine wo_load (h := ?_) | refine wo_loadAll (h := ?_) | refine wo_loadC (h := ?_) | refine wo_ldV (h := ?_) | refine wo_ldF (h := ?_)) | ((with_reducible apply o_lss); exact rfl; exact rfl; exact rfl) | ((with_reducible apply o_add); exact rfl; exact rfl; exact rfl; (constructor <;> omega)) | ((with_reducible apply o_alloc); exact rfl; intro _) | ((with_reducible apply gdo_store); first | refine wo_store1 (h := ?_) | refine wo_storeA (h := ?_)) | ((with_reducible apply o_idx); infer_instance; infer_instance; exact rfl; exact rfl; (first | exact rfl | omega); exact rfl; (first | assumption | omega | decide)) | ((with_reducible first | apply c_seq | apply c_block | apply c_region | apply c_nil | apply c_ret | apply c_exit | apply c_unroll | apply c_skip)) | ((with_reducible apply c_cond_t); exact rfl; exact tT_) | ((with_reducible first | apply e_then | apply e_then_ret | apply e_then_exit | apply e_in | apply e_in_ret | apply e_in_same)) | ((with_reducible apply c_regionD0 (id := 5) []); kernel_rfl; kernel_rfl) | ((with_reducible apply c_regionD0 (id := 6) []); kernel_rfl; kernel_rfl) | ((with_reducible apply q_nil); try simp only [ents, List.cons_append, List.nil_append]) | ((with_reducible first | apply q_move | apply q_assign | apply q_faddr0); exact rfl; exact rfl) | ((with_reducible apply gdq_load); first | refine wq_load (h := ?_) | refine wq_loadAll (h := ?_) | refine wq_loadC (h := ?_) | refine wq_ldV (h := ?_) | refine wq_ldF (h := ?_)) | ((with_reducible apply q_add); exact rfl; exact rfl; exact rfl; (constructor <;> omega)) | ((with_reducible apply q_idx); infer_instance; infer_instance; exact rfl; exact rfl; (first | exact rfl | omega); exact rfl; (first | assumption | omega | decide)))
    refine l_again (i + 1, R1.set f (y1 + vo), R2.set d (y2 + vo)) ⟨by simp only []; omega, ?_, ?_⟩ (by simp only []; omega) ?_ ?_
    · simp only []
      subst hR1
      exact loads_step hx rfl z1
    · simp only []
      subst hR2
      exact loads_step hx rfl z2
    · (repeat (first | exact FSub.nil | refine FSub.cons rfl ?_))
    · ((try dsimp only); repeat (first | exact HSub.nil rfl | (apply HSub.take; (repeat (first | exact Rem.hd | apply Rem.tl | apply Rem.right))) | exact HSub.same | (apply HSub.takeL; ((focus (repeat (first | exact RemL.hd | exact RemL.all | exact RemL.nil | apply RemL.tl | apply RemL.right))) <;> done)) | apply HSub.drop | (apply HSub.takeL; (focus ((repeat (first | exact RemL.hd | exact RemL.all | exact RemL.nil | apply RemL.tl | apply RemL.right))))) | (apply HSub.takeA; (first | exact RemL.hd | exact RemL.all); ((focus (repeat (first | exact AO.nil | apply AO.cons | (apply AO.app; assumption)))) <;> done)) | (apply HSub.dropL; assumption) | (apply HSub.takeA; (focus ((repeat (first | exact RemL.hd | exact RemL.all | exact RemL.nil | apply RemL.tl | apply RemL.right)))); ((focus (repeat (first | exact AO.nil | apply AO.cons | (apply AO.app; assumption)))) <;> done)) | (apply HSub.nilA; ((focus (repeat (first | exact AO.nil | apply AO.cons | (apply AO.app; assumption)))) <;> done))))
  · rw [List.take_of_length_le (by omega)] at hR1 hR2
    have r1 : (R1.flatMap encI ++ []).length = n * 1 := by rw [List.append_nil, flat_len encI_len, n1]
    have r2 : (R2.flatMap encI ++ []).length = n * 1 := by rw [List.append_nil, flat_len encI_len, n2]
    repeat' (first | ((with_reducible first | apply o_move | apply o_assign | apply o_faddr0); exact rfl; exact rfl) | ((with_reducible apply o_lss); exact rfl; exact rfl; exact rfl) | ((with_reducible first | apply c_seq | apply c_block | apply c_region | apply c_nil | apply c_ret | apply c_exit | apply c_unroll | apply c_skip)) | ((with_reducible apply c_cond_f); exact rfl; exact fF_) | ((with_reducible first | apply e_then | apply e_then_ret | apply e_then_exit | apply e_in | apply e_in_ret | apply e_in_same)))
    apply r_body; apply res2 Try.results38; exact rV_; exact rV_; intro w' hw
    have o1 := OW.row (E := 3) (enc := encI) (b := b1) (cap := n) (xs := R1) (s := []) r1 (by omega)
    have o2 := OW.row (E := 3) (enc := encI) (b := b2) (cap := n) (xs := R2) (s := []) r2 (by omega)
    rw [n1] at o1
    rw [n2] at o2
    rw [← hR1, ← hR2]
    exact ⟨_, _, rfl, ⟨_, _, _, _, _, _, rfl, o1, o2, rfl, by simp, by simp⟩, by simpa using hw, by simp⟩
/-! ## plans -/
/-- A plan as a value. -/
def PV (w : World) (v : Value) (p : Seq.Plan) : Prop := ∃ v1 v2 v3 v4, v = .agg #[v1, v2, v3, v4] ∧ SV w 1 encI v1 p.caps ∧ SV w 4 encSeat v2 p.seats ∧ SV w 1 encI v3 p.first ∧ SV w 1 encI v4 p.second
theorem PV.keep {w0 w : World} {L : List Ent} {v : Value} {p : Seq.Plan} (h : PV w0 v p) (hw : Rep w0 w L) (ho : AO L) : PV w v p := by
  obtain ⟨v1, v2, v3, v4, rfl, h1, h2, h3, h4⟩ := h
  exact ⟨v1, v2, v3, v4, rfl, h1.keep hw ho, h2.keep hw ho, h3.keep hw ho, h4.keep hw ho⟩
theorem PV.open {w : World} {v : Value} {p : Seq.Plan} (h : PV w v p) : ∃ a1 c1 a2 c2 a3 c3 a4 c4, v = .agg #[.slice a1 p.caps.length c1, .slice a2 p.seats.length c2, .slice a3 p.first.length c3, .slice a4 p.second.length c4] ∧
    SV w 1 encI (.slice a1 p.caps.length c1) p.caps ∧ SV w 4 encSeat (.slice a2 p.seats.length c2) p.seats ∧ SV w 1 encI (.slice a3 p.first.length c3) p.first ∧ SV w 1 encI (.slice a4 p.second.length c4) p.second := by
  obtain ⟨v1, v2, v3, v4, rfl, h1, h2, h3, h4⟩ := h
  obtain ⟨a1, c1, rfl, _⟩ := h1.open
  obtain ⟨a2, c2, rfl, _⟩ := h2.open
  obtain ⟨a3, c3, rfl, _⟩ := h3.open
  obtain ⟨a4, c4, rfl, _⟩ := h4.open
  exact ⟨a1, c1, a2, c2, a3, c3, a4, c4, rfl, h1, h2, h3, h4⟩
/-- The seat before. -/
def prevS (l : List Seq.Seat) : Nat → Option Seq.Seat
  | 0 => none
  | i + 1 => l[i]?
set_option maxHeartbeats 1000000 in
theorem misplaced_calls {pv : Value} {p : Seq.Plan} (w : World) (h : PV w pv p) : Calls Try.prog 48 #[pv] w fun e w' => e = .returned (atV (Seq.misF p.caps.length none 0 p.seats)) ∧ Below w.heap.size w w' := by
  obtain ⟨a1, c1, a2, c2, a3, c3, a4, c4, rfl, h1, h2, h3, h4⟩ := h.open
  obtain ⟨caps, l, fs, ss⟩ := p
  simp only [] at h1 h2 h3 h4 ⊢
  obtain ⟨_, _, e2, hc2, hop⟩ := h2.open
  cases e2
  have hc1 : caps.length ≤ 9223372036854775807 := by
    obtain ⟨_, _, _, hc, _⟩ := h1.open
    exact hc.2
  refine f_enter1 Try.func48 rfl Try.ntmps48 rfl (Rep.start w) ?_
  repeat' (first | ((with_reducible first | apply o_move | apply o_assign | apply o_faddr0); exact rfl; exact rfl) | ((with_reducible apply gdo_load); first | refine wo_load (h := ?_) | refine wo_loadAll (h := ?_) | refine wo_loadC (h := ?_) | refine wo_ldV (h := ?_) | refine wo_ldF (h := ?_)) | ((with_reducible apply o_box); exact rfl; exact rfl; exact rfl; intro _) | ((with_reducible apply o_len); infer_instance; exact rfl; exact rfl) | ((with_reducible first | apply c_seq | apply c_block | apply c_region | apply c_nil | apply c_ret | apply c_exit | apply c_unroll | apply c_skip)) | ((with_reducible first | apply e_then | apply e_then_ret | apply e_then_exit | apply e_in | apply e_in_ret | apply e_in_same)))
  rename_i bp
  apply c_loop (σ := Nat) (Fs := fun i => [(10, .int .i64 i), (9, .int .i64 l.length), (8, .slice a2 l.length c2), (1, ptr bp)])
    (Ls := fun i => [⟨bp, Ce [.slice a1 caps.length c1, .slice a2 l.length c2, .slice a3 fs.length c3, .slice a4 ss.length c4] 38, true⟩])
    (I := fun i => i ≤ l.length ∧ Seq.misF caps.length none 0 l = Seq.misF caps.length (prevS l i) i (l.drop i)) (μ := fun i => l.length - i) (s0 := 0)
  · exact ⟨Nat.zero_le _, rfl⟩
  · (repeat (first | exact FSub.nil | refine FSub.cons rfl ?_))
  · ((try dsimp only); repeat (first | exact HSub.nil rfl | (apply HSub.take; (repeat (first | exact Rem.hd | apply Rem.tl | apply Rem.right))) | exact HSub.same | (apply HSub.takeL; ((focus (repeat (first | exact RemL.hd | exact RemL.all | exact RemL.nil | apply RemL.tl | apply RemL.right))) <;> done)) | apply HSub.drop | (apply HSub.takeL; (focus ((repeat (first | exact RemL.hd | exact RemL.all | exact RemL.nil | apply RemL.tl | apply RemL.right))))) | (apply HSub.takeA; (first | exact RemL.hd | exact RemL.all); ((focus (repeat (first | exact AO.nil | apply AO.cons | (apply AO.app; assumption)))) <;> done)) | (apply HSub.dropL; assumption) | (apply HSub.takeA; (focus ((repeat (first | exact RemL.hd | exact RemL.all | exact RemL.nil | apply RemL.tl | apply RemL.right)))); ((focus (repeat (first | exact AO.nil | apply AO.cons | (apply AO.app; assumption)))) <;> done)) | (apply HSub.nilA; ((focus (repeat (first | exact AO.nil | apply AO.cons | (apply AO.app; assumption)))) <;> done))))
  rintro i ⟨hi, hw0⟩
  by_cases hlt : i < l.length
  · obtain ⟨s, hx⟩ : ∃ s, l[i]? = some s := ⟨_, List.getElem?_eq_getElem hlt⟩
    obtain ⟨b, off, cc, e, fz, rfl, hk, hp⟩ := hop (by omega)
    have g1 := hp.get hx
    rw [drop_at hx] at hw0
    by_cases hr : (0 ≤ s.first ∧ s.first < caps.length) ∧ (0 ≤ s.second ∧ s.second < caps.length)
    · rcases i with _ | j
      · have hw1 : Seq.misF caps.length none 0 l = Seq.misF caps.length (prevS l 1) 1 (l.drop 1) := by rw [hw0]; simp only [prevS]; rw [hx, Seq.misF_first hr]
        repeat' (first | ((with_reducible first | apply o_move | apply o_assign | apply o_faddr0); exact rfl; exact rfl) | ((with_reducible apply gdo_load); first | refine wo_load (h := ?_) | refine wo_loadAll (h := ?_) | refine wo_loadC (h := ?_) | refine wo_ldV (h := ?_) | refine wo_ldF (h := ?_)) | ((with_reducible first | apply o_lss | apply o_leq | apply o_geq | apply o_eql); exact rfl; exact rfl; exact rfl) | ((with_reducible first | apply o_add | apply o_sub); exact rfl; exact rfl; exact rfl; (constructor <;> omega)) | ((with_reducible apply o_pick_f); exact rfl; exact fF_; exact rfl; exact rfl) | ((with_reducible apply o_alloc); exact rfl; intro _) | ((with_reducible apply gdo_store); first | refine wo_store1 (h := ?_) | refine wo_storeA (h := ?_)) | ((with_reducible apply o_len); infer_instance; exact rfl; exact rfl) | ((with_reducible apply o_idx); infer_instance; infer_instance; exact rfl; exact rfl; (first | exact rfl | omega); exact rfl; (first | assumption | omega | decide)) | ((with_reducible first | apply g_run | apply g_skip_none); exact rfl; exact gG_) | ((with_reducible first | apply c_seq | apply c_block | apply c_region | apply c_nil | apply c_ret | apply c_exit | apply c_unroll | apply c_skip)) | ((with_reducible apply c_cond_t); exact rfl; exact tT_) | ((with_reducible apply c_cond_f); exact rfl; exact fF_) | ((with_reducible first | apply e_then | apply e_then_ret | apply e_then_exit | apply e_in | apply e_in_ret | apply e_in_same)))
        refine l_again 1 ⟨by omega, hw1⟩ (by omega) ?_ ?_
        · (repeat (first | exact FSub.nil | refine FSub.cons rfl ?_))
        · ((try dsimp only); repeat (first | exact HSub.nil rfl | (apply HSub.take; (repeat (first | exact Rem.hd | apply Rem.tl | apply Rem.right))) | exact HSub.same | (apply HSub.takeL; ((focus (repeat (first | exact RemL.hd | exact RemL.all | exact RemL.nil | apply RemL.tl | apply RemL.right))) <;> done)) | apply HSub.drop | (apply HSub.takeL; (focus ((repeat (first | exact RemL.hd | exact RemL.all | exact RemL.nil | apply RemL.tl | apply RemL.right))))) | (apply HSub.takeA; (first | exact RemL.hd | exact RemL.all); ((focus (repeat (first | exact AO.nil | apply AO.cons | (apply AO.app; assumption)))) <;> done)) | (apply HSub.dropL; assumption) | (apply HSub.takeA; (focus ((repeat (first | exact RemL.hd | exact RemL.all | exact RemL.nil | apply RemL.tl | apply RemL.right)))); ((focus (repeat (first | exact AO.nil | apply AO.cons | (apply AO.app; assumption)))) <;> done)) | (apply HSub.nilA; ((focus (repeat (first | exact AO.nil | apply AO.cons | (apply AO.app; assumption)))) <;> done))))
      · obtain ⟨q, hy⟩ : ∃ q, l[j]? = some q := ⟨_, List.getElem?_eq_getElem (by omega)⟩
        have g2 := hp.get hy
        simp only [prevS, hy] at hw0
        rw [Seq.misF_next hr] at hw0
        by_cases hb : s.second < q.second ∨ (s.second = q.second ∧ s.first ≤ q.first)
        · rw [if_pos hb] at hw0
          rw [hw0]
          repeat' (first | (apply o_idx (m := j); infer_instance; infer_instance; exact rfl; exact rfl; omega; exact rfl; omega) | ((with_reducible first | apply o_move | apply o_assign | apply o_faddr0); exact rfl; exact rfl) | ((with_reducible apply gdo_load); first | refine wo_load (h := ?_) | refine wo_loadAll (h := ?_) | refine wo_loadC (h := ?_) | refine wo_ldV (h := ?_) | refine wo_ldF (h := ?_)) | ((with_reducible first | apply o_lss | apply o_leq | apply o_geq | apply o_eql); exact rfl; exact rfl; exact rfl) | ((with_reducible first | apply o_add | apply o_sub); exact rfl; exact rfl; exact rfl; (constructor <;> omega)) | ((with_reducible apply o_pick_t); exact rfl; exact tT_; exact rfl; exact rfl) | ((with_reducible apply o_pick_f); exact rfl; exact fF_; exact rfl; exact rfl) | ((with_reducible apply o_alloc); exact rfl; intro _) | ((with_reducible apply gdo_store); first | refine wo_store1 (h := ?_) | refine wo_storeA (h := ?_)) | ((with_reducible apply o_len); infer_instance; exact rfl; exact rfl) | ((with_reducible apply o_idx); infer_instance; infer_instance; exact rfl; exact rfl; (first | exact rfl | omega); exact rfl; (first | assumption | omega | decide)) | ((with_reducible first | apply g_run | apply g_skip_none); exact rfl; exact gG_) | ((with_reducible apply g_skip); exact rfl; exact gG_; exact rfl) | ((with_reducible apply g_skip_undef); exact rfl; exact rfl) | ((with_reducible first | apply c_seq | apply c_block | apply c_region | apply c_nil | apply c_ret | apply c_exit | apply c_unroll | apply c_skip)) | ((with_reducible apply c_cond_t); exact rfl; exact tT_) | ((with_reducible apply c_cond_f); exact rfl; exact fF_) | ((with_reducible first | apply e_then | apply e_then_ret | apply e_then_exit | apply e_in | apply e_in_ret | apply e_in_same)) | ((with_reducible apply g_split_d); exact rfl; intro hcond; rotate_left; intro hcond; rotate_left))
          all_goals first
            | (exfalso; omega)
            | (apply r_body; apply res2 Try.results48; exact rV_; exact rV_; intro w' hw; exact ⟨rfl, hw.below (by simp)⟩)
        · rw [if_neg hb] at hw0
          have hw1 : Seq.misF caps.length none 0 l = Seq.misF caps.length (prevS l (j + 1 + 1)) (j + 1 + 1) (l.drop (j + 1 + 1)) := by rw [hw0]; simp only [prevS]; rw [hx]
          repeat' (first | (apply o_idx (m := j); infer_instance; infer_instance; exact rfl; exact rfl; omega; exact rfl; omega) | ((with_reducible first | apply o_move | apply o_assign | apply o_faddr0); exact rfl; exact rfl) | ((with_reducible apply gdo_load); first | refine wo_load (h := ?_) | refine wo_loadAll (h := ?_) | refine wo_loadC (h := ?_) | refine wo_ldV (h := ?_) | refine wo_ldF (h := ?_)) | ((with_reducible first | apply o_lss | apply o_leq | apply o_geq | apply o_eql); exact rfl; exact rfl; exact rfl) | ((with_reducible first | apply o_add | apply o_sub); exact rfl; exact rfl; exact rfl; (constructor <;> omega)) | ((with_reducible apply o_pick_t); exact rfl; exact tT_; exact rfl; exact rfl) | ((with_reducible apply o_pick_f); exact rfl; exact fF_; exact rfl; exact rfl) | ((with_reducible apply o_alloc); exact rfl; intro _) | ((with_reducible apply gdo_store); first | refine wo_store1 (h := ?_) | refine wo_storeA (h := ?_)) | ((with_reducible apply o_len); infer_instance; exact rfl; exact rfl) | ((with_reducible apply o_idx); infer_instance; infer_instance; exact rfl; exact rfl; (first | exact rfl | omega); exact rfl; (first | assumption | omega | decide)) | ((with_reducible first | apply g_run | apply g_skip_none); exact rfl; exact gG_) | ((with_reducible apply g_skip); exact rfl; exact gG_; exact rfl) | ((with_reducible first | apply c_seq | apply c_block | apply c_region | apply c_nil | apply c_ret | apply c_exit | apply c_unroll | apply c_skip)) | ((with_reducible apply c_cond_t); exact rfl; exact tT_) | ((with_reducible apply c_cond_f); exact rfl; exact fF_) | ((with_reducible first | apply e_then | apply e_then_ret | apply e_then_exit | apply e_in | apply e_in_ret | apply e_in_same)) | ((with_reducible apply g_split_d); exact rfl; intro hcond; rotate_left; intro hcond; rotate_left))
          all_goals first
            | (exfalso; omega)
            | (refine l_again (j + 1 + 1) ⟨by omega, hw1⟩ (by omega) ?_ ?_
               · (repeat (first | exact FSub.nil | refine FSub.cons rfl ?_))
               · ((try dsimp only); repeat (first | exact HSub.nil rfl | (apply HSub.take; (repeat (first | exact Rem.hd | apply Rem.tl | apply Rem.right))) | exact HSub.same | (apply HSub.takeL; ((focus (repeat (first | exact RemL.hd | exact RemL.all | exact RemL.nil | apply RemL.tl | apply RemL.right))) <;> done)) | apply HSub.drop | (apply HSub.takeL; (focus ((repeat (first | exact RemL.hd | exact RemL.all | exact RemL.nil | apply RemL.tl | apply RemL.right))))) | (apply HSub.takeA; (first | exact RemL.hd | exact RemL.all); ((focus (repeat (first | exact AO.nil | apply AO.cons | (apply AO.app; assumption)))) <;> done)) | (apply HSub.dropL; assumption) | (apply HSub.takeA; (focus ((repeat (first | exact RemL.hd | exact RemL.all | exact RemL.nil | apply RemL.tl | apply RemL.right)))); ((focus (repeat (first | exact AO.nil | apply AO.cons | (apply AO.app; assumption)))) <;> done)) | (apply HSub.nilA; ((focus (repeat (first | exact AO.nil | apply AO.cons | (apply AO.app; assumption)))) <;> done)))))
    · rw [Seq.misF_in hr] at hw0
      rw [hw0]
      repeat' (first | ((with_reducible first | apply o_move | apply o_assign | apply o_faddr0); exact rfl; exact rfl) | ((with_reducible apply gdo_load); first | refine wo_load (h := ?_) | refine wo_loadAll (h := ?_) | refine wo_loadC (h := ?_) | refine wo_ldV (h := ?_) | refine wo_ldF (h := ?_)) | ((with_reducible first | apply o_lss | apply o_leq | apply o_geq | apply o_eql); exact rfl; exact rfl; exact rfl) | ((with_reducible apply o_pick_t); exact rfl; exact tT_; exact rfl; exact rfl) | ((with_reducible apply o_pick_f); exact rfl; exact fF_; exact rfl; exact rfl) | ((with_reducible apply o_alloc); exact rfl; intro _) | ((with_reducible apply gdo_store); first | refine wo_store1 (h := ?_) | refine wo_storeA (h := ?_)) | ((with_reducible apply o_len); infer_instance; exact rfl; exact rfl) | ((with_reducible apply o_idx); infer_instance; infer_instance; exact rfl; exact rfl; (first | exact rfl | omega); exact rfl; (first | assumption | omega | decide)) | ((with_reducible first | apply g_run | apply g_skip_none); exact rfl; exact gG_) | ((with_reducible apply g_skip); exact rfl; exact gG_; exact rfl) | ((with_reducible first | apply c_seq | apply c_block | apply c_region | apply c_nil | apply c_ret | apply c_exit | apply c_unroll | apply c_skip)) | ((with_reducible apply c_cond_t); exact rfl; exact tT_) | ((with_reducible first | apply e_then | apply e_then_ret | apply e_then_exit | apply e_in | apply e_in_ret | apply e_in_same)) | ((with_reducible apply g_split_d); exact rfl; intro hcond; rotate_left; intro hcond; rotate_left))
      all_goals first
        | (exfalso; omega)
        | (apply r_body; apply res2 Try.results48; exact rV_; exact rV_; intro w' hw; exact ⟨rfl, hw.below (by simp)⟩)
  · have hz : Seq.misF caps.length (prevS l i) i [] = none := by simp [Seq.misF]
    rw [List.drop_of_length_le (by omega), hz] at hw0
    rw [hw0]
    repeat' (first | ((with_reducible first | apply o_move | apply o_assign | apply o_faddr0); exact rfl; exact rfl) | ((with_reducible first | apply o_lss | apply o_leq | apply o_geq | apply o_eql); exact rfl; exact rfl; exact rfl) | ((with_reducible first | apply c_seq | apply c_block | apply c_region | apply c_nil | apply c_ret | apply c_exit | apply c_unroll | apply c_skip)) | ((with_reducible apply c_cond_f); exact rfl; exact fF_) | ((with_reducible first | apply e_then | apply e_then_ret | apply e_then_exit | apply e_in | apply e_in_ret | apply e_in_same)))
    apply r_body; apply res2 Try.results48; exact rV_; exact rV_; intro w' hw
    exact ⟨rfl, hw.below (by simp)⟩
end Go.Proofs.Yteilhjglohahoaa
