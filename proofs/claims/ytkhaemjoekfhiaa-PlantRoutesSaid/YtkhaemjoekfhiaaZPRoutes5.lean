/- A part of the proofs of this seat: a small logic of walks, plain laws, and what some of the program's functions compute, shown by walks through their code. Conditions: the hypotheses that each theorem names. -/
import Derived.Test.YtkhaemjoekfhiaaZPRoutes3
import Derived.Test.YtkhaemjoekfhiaaZPRoutes4
set_option linter.unusedSimpArgs false
set_option linter.unusedVariables false
set_option linter.unusedSectionVars false
namespace Go.Proofs.Ytkhaemjoekfhiaa
open Go Go.Sx Go.RowKit
attribute [local irreducible] WL WC WQ WR WB WF QB St Exit.then Exit.inBlock Exit.noGoto bodyPost roundPost beginK YR RG BM Calls B AgainD MeetD
/-! ## sources -/
theorem dec_is {p q : Prop} [Decidable p] {b : Bool} (h : p ↔ q) (hb : b = true ↔ q) : decide p = b := by
  cases b
  · exact decide_eq_false (fun hp => by have := hb.2 (h.1 hp); cases this)
  · exact decide_eq_true (h.2 (hb.1 rfl))
theorem srcOk_batch {ps : List (Int × Int)} {n : Int} : Plt.srcOk ps (0, n) ↔ 1 ≤ n ∧ n ≤ 100 := by simp [Plt.srcOk]
theorem srcOk_none {ps : List (Int × Int)} {s1 s2 : Int} (h0 : s1 ≠ 0) (ho : asF s1 ps = none) : ¬ Plt.srcOk ps (s1, s2) := by simp [Plt.srcOk, h0, ho]
theorem srcOk_some {ps : List (Int × Int)} {s1 s2 n : Int} (h0 : s1 ≠ 0) (ho : asF s1 ps = some n) : Plt.srcOk ps (s1, s2) ↔ 0 ≤ s2 ∧ s2 < n := by simp [Plt.srcOk, h0, ho]
theorem source_calls {bc bm bp bt : Nat} {ps : List (Int × Int)} {s1 s2 : Int} (w : World) (h1 : w.heap[bc]? = some (Ce [.map (some bm), .map (some bp), .map (some bt)] 100)) (h2 : w.heap[bp]? = some (MO (MM kI kI ps))) (hn : (ps.map Prod.fst).Nodup) :
    Calls Try.prog 48 #[ptr bc, .agg #[.int .i64 s1, .int .i64 s2]] w fun e w' => e = .returned (.bool (decide (Plt.srcOk ps (s1, s2)))) ∧ Below w.heap.size w w' := by
  by_cases h0 : s1 = 0
  · subst h0
    by_cases hb : 1 ≤ s2 ∧ s2 ≤ 100
    · rw [decide_eq_true (srcOk_batch.2 hb)]
      refine f_enter2 Try.func48 rfl Try.ntmps48 rfl (Rep.start w) ?_
      repeat' (first | ((with_reducible apply c_cond_t); exact rfl; exact decide_eq_true (by omega)) | ((with_reducible apply o_pick_t); exact rfl; exact decide_eq_true (by omega); exact rfl; exact rfl) | ((with_reducible apply g_run); exact rfl; exact decide_eq_true (by omega)) | ((with_reducible first | apply o_move | apply o_assign | apply o_faddr0 | apply o_nilCheck); exact rfl; exact rfl) | ((with_reducible apply gdo_load); first | refine wo_load (h := ?_) | refine wo_loadAll (h := ?_) | refine wo_loadC (h := ?_) | refine wo_ldV (h := ?_) | refine wo_ldF (h := ?_)) | ((with_reducible first | apply o_lss | apply o_leq | apply o_geq | apply o_eql | apply o_extract); exact rfl; exact rfl; exact rfl) | ((with_reducible apply o_box); exact rfl; exact rfl; exact rfl; intro _) | ((with_reducible first | apply c_seq | apply c_block | apply c_region | apply c_nil | apply c_ret | apply c_exit | apply c_skip)) | ((with_reducible first | apply e_then | apply e_then_ret | apply e_then_exit | apply e_in | apply e_in_ret | apply e_in_same)))
      apply r_body; apply res1 Try.results48; exact rV_; intro w' hw
      refine ⟨?_, hw.below (by simp)⟩
      simp [hb.2]
    · rw [decide_eq_false (fun h => hb (srcOk_batch.1 h))]
      by_cases h3 : 1 ≤ s2
      · refine f_enter2 Try.func48 rfl Try.ntmps48 rfl (Rep.start w) ?_
        repeat' (first | ((with_reducible apply c_cond_t); exact rfl; exact decide_eq_true (by omega)) | ((with_reducible apply o_pick_t); exact rfl; exact decide_eq_true (by omega); exact rfl; exact rfl) | ((with_reducible apply g_run); exact rfl; exact decide_eq_true (by omega)) | ((with_reducible first | apply o_move | apply o_assign | apply o_faddr0 | apply o_nilCheck); exact rfl; exact rfl) | ((with_reducible apply gdo_load); first | refine wo_load (h := ?_) | refine wo_loadAll (h := ?_) | refine wo_loadC (h := ?_) | refine wo_ldV (h := ?_) | refine wo_ldF (h := ?_)) | ((with_reducible first | apply o_lss | apply o_leq | apply o_geq | apply o_eql | apply o_extract); exact rfl; exact rfl; exact rfl) | ((with_reducible apply o_box); exact rfl; exact rfl; exact rfl; intro _) | ((with_reducible first | apply c_seq | apply c_block | apply c_region | apply c_nil | apply c_ret | apply c_exit | apply c_skip)) | ((with_reducible first | apply e_then | apply e_then_ret | apply e_then_exit | apply e_in | apply e_in_ret | apply e_in_same)))
        apply r_body; apply res1 Try.results48; exact rV_; intro w' hw
        refine ⟨?_, hw.below (by simp)⟩
        have : ¬ s2 ≤ 100 := fun h => hb ⟨h3, h⟩
        simp [this]
      · refine f_enter2 Try.func48 rfl Try.ntmps48 rfl (Rep.start w) ?_
        repeat' (first | ((with_reducible apply c_cond_t); exact rfl; exact decide_eq_true (by omega)) | ((with_reducible apply o_pick_f); exact rfl; exact decide_eq_false (by omega); exact rfl; exact rfl) | ((with_reducible apply g_skip); exact rfl; exact decide_eq_false (by omega); exact rfl) | ((with_reducible first | apply o_move | apply o_assign | apply o_faddr0 | apply o_nilCheck); exact rfl; exact rfl) | ((with_reducible apply gdo_load); first | refine wo_load (h := ?_) | refine wo_loadAll (h := ?_) | refine wo_loadC (h := ?_) | refine wo_ldV (h := ?_) | refine wo_ldF (h := ?_)) | ((with_reducible first | apply o_lss | apply o_leq | apply o_geq | apply o_eql | apply o_extract); exact rfl; exact rfl; exact rfl) | ((with_reducible apply o_box); exact rfl; exact rfl; exact rfl; intro _) | ((with_reducible first | apply c_seq | apply c_block | apply c_region | apply c_nil | apply c_ret | apply c_exit | apply c_skip)) | ((with_reducible first | apply e_then | apply e_then_ret | apply e_then_exit | apply e_in | apply e_in_ret | apply e_in_same)))
        apply r_body; apply res1 Try.results48; exact rV_; intro w' hw
        exact ⟨rfl, hw.below (by simp)⟩
  · cases ho : asF s1 ps with
    | none =>
      rw [decide_eq_false (srcOk_none h0 ho)]
      refine f_enter2 Try.func48 rfl Try.ntmps48 rfl (Rep.start w) ?_
      repeat' (first | ((with_reducible apply c_cond_f); exact rfl; exact decide_eq_false (by omega)) | ((with_reducible apply q_lookMT_out (κ := kI) (ν := kI) (k := s1)); infer_instance; infer_instance; infer_instance; exact rfl; exact rfl; exact sJ_; exact rfl; exact kN_; assumption; exact rfl) | ((with_reducible first | apply o_move | apply o_assign | apply o_faddr0 | apply o_nilCheck); exact rfl; exact rfl) | ((with_reducible apply gdo_load); first | refine wo_load (h := ?_) | refine wo_loadAll (h := ?_) | refine wo_loadC (h := ?_) | refine wo_ldV (h := ?_) | refine wo_ldF (h := ?_)) | ((with_reducible first | apply o_lss | apply o_leq | apply o_geq | apply o_eql | apply o_extract); exact rfl; exact rfl; exact rfl) | ((with_reducible apply o_pick_f); exact rfl; exact fF_; exact rfl; exact rfl) | ((with_reducible apply o_box); exact rfl; exact rfl; exact rfl; intro _) | ((with_reducible apply g_skip); exact rfl; exact gG_; exact rfl) | ((with_reducible first | apply c_seq | apply c_block | apply c_region | apply c_nil | apply c_ret | apply c_exit | apply c_skip)) | ((with_reducible first | apply e_then | apply e_then_ret | apply e_then_exit | apply e_in | apply e_in_ret | apply e_in_same)) | ((with_reducible apply c_regionD0 (id := 3) []); kernel_rfl; kernel_rfl) | ((with_reducible apply q_nil); try simp only [ents, List.cons_append, List.nil_append]) | ((with_reducible first | apply q_move | apply q_assign | apply q_faddr0); exact rfl; exact rfl) | ((with_reducible apply gdq_load); first | refine wq_load (h := ?_) | refine wq_loadAll (h := ?_) | refine wq_loadC (h := ?_) | refine wq_ldF (h := ?_)) | ((with_reducible first | apply q_lss | apply q_geq | apply q_extract); exact rfl; exact rfl; exact rfl) | ((with_reducible apply gdq_nilCheck); refine wq_nilCheck (h := ?_)))
      apply r_body; apply res1 Try.results48; exact rV_; intro w' hw
      exact ⟨rfl, hw.below (by simp)⟩
    | some n =>
      by_cases h3 : 0 ≤ s2
      · rw [dec_is (srcOk_some h0 ho) (b := decide (s2 < n)) (by rw [decide_eq_true_eq]; exact ⟨fun h => ⟨h3, h⟩, fun h => h.2⟩)]
        refine f_enter2 Try.func48 rfl Try.ntmps48 rfl (Rep.start w) ?_
        repeat' (first | ((with_reducible apply c_cond_f); exact rfl; exact decide_eq_false (by omega)) | ((with_reducible apply o_pick_t); exact rfl; exact decide_eq_true (by omega); exact rfl; exact rfl) | ((with_reducible apply g_run); exact rfl; exact decide_eq_true (by omega)) | ((with_reducible apply q_lookMT_in (κ := kI) (ν := kI) (k := s1)); infer_instance; infer_instance; exact rfl; exact rfl; exact sJ_; exact rfl; exact kN_; assumption; assumption; exact rfl) | ((with_reducible first | apply o_move | apply o_assign | apply o_faddr0 | apply o_nilCheck); exact rfl; exact rfl) | ((with_reducible apply gdo_load); first | refine wo_load (h := ?_) | refine wo_loadAll (h := ?_) | refine wo_loadC (h := ?_) | refine wo_ldV (h := ?_) | refine wo_ldF (h := ?_)) | ((with_reducible first | apply o_lss | apply o_leq | apply o_geq | apply o_eql | apply o_extract); exact rfl; exact rfl; exact rfl) | ((with_reducible apply o_pick_t); exact rfl; exact tT_; exact rfl; exact rfl) | ((with_reducible apply o_box); exact rfl; exact rfl; exact rfl; intro _) | ((with_reducible first | apply g_run); exact rfl; exact gG_) | ((with_reducible first | apply c_seq | apply c_block | apply c_region | apply c_nil | apply c_ret | apply c_exit | apply c_skip)) | ((with_reducible first | apply e_then | apply e_then_ret | apply e_then_exit | apply e_in | apply e_in_ret | apply e_in_same)) | ((with_reducible apply c_regionD0 (id := 3) []); kernel_rfl; kernel_rfl) | ((with_reducible apply q_nil); try simp only [ents, List.cons_append, List.nil_append]) | ((with_reducible first | apply q_move | apply q_assign | apply q_faddr0); exact rfl; exact rfl) | ((with_reducible apply gdq_load); first | refine wq_load (h := ?_) | refine wq_loadAll (h := ?_) | refine wq_loadC (h := ?_) | refine wq_ldF (h := ?_)) | ((with_reducible first | apply q_lss | apply q_geq | apply q_extract); exact rfl; exact rfl; exact rfl) | ((with_reducible apply gdq_nilCheck); refine wq_nilCheck (h := ?_)))
        apply r_body; apply res1 Try.results48; exact rV_; intro w' hw
        exact ⟨rfl, hw.below (by simp)⟩
      · rw [decide_eq_false (fun h => h3 ((srcOk_some h0 ho).1 h).1)]
        refine f_enter2 Try.func48 rfl Try.ntmps48 rfl (Rep.start w) ?_
        repeat' (first | ((with_reducible apply c_cond_f); exact rfl; exact decide_eq_false (by omega)) | ((with_reducible apply o_pick_f); exact rfl; exact decide_eq_false (by omega); exact rfl; exact rfl) | ((with_reducible apply g_skip); exact rfl; exact decide_eq_false (by omega); exact rfl) | ((with_reducible apply q_lookMT_in (κ := kI) (ν := kI) (k := s1)); infer_instance; infer_instance; exact rfl; exact rfl; exact sJ_; exact rfl; exact kN_; assumption; assumption; exact rfl) | ((with_reducible first | apply o_move | apply o_assign | apply o_faddr0 | apply o_nilCheck); exact rfl; exact rfl) | ((with_reducible apply gdo_load); first | refine wo_load (h := ?_) | refine wo_loadAll (h := ?_) | refine wo_loadC (h := ?_) | refine wo_ldV (h := ?_) | refine wo_ldF (h := ?_)) | ((with_reducible first | apply o_lss | apply o_leq | apply o_geq | apply o_eql | apply o_extract); exact rfl; exact rfl; exact rfl) | ((with_reducible apply o_pick_t); exact rfl; exact tT_; exact rfl; exact rfl) | ((with_reducible apply o_box); exact rfl; exact rfl; exact rfl; intro _) | ((with_reducible first | apply g_run); exact rfl; exact gG_) | ((with_reducible first | apply c_seq | apply c_block | apply c_region | apply c_nil | apply c_ret | apply c_exit | apply c_skip)) | ((with_reducible first | apply e_then | apply e_then_ret | apply e_then_exit | apply e_in | apply e_in_ret | apply e_in_same)) | ((with_reducible apply c_regionD0 (id := 3) []); kernel_rfl; kernel_rfl) | ((with_reducible apply q_nil); try simp only [ents, List.cons_append, List.nil_append]) | ((with_reducible first | apply q_move | apply q_assign | apply q_faddr0); exact rfl; exact rfl) | ((with_reducible apply gdq_load); first | refine wq_load (h := ?_) | refine wq_loadAll (h := ?_) | refine wq_loadC (h := ?_) | refine wq_ldF (h := ?_)) | ((with_reducible first | apply q_lss | apply q_geq | apply q_extract); exact rfl; exact rfl; exact rfl) | ((with_reducible apply gdq_nilCheck); refine wq_nilCheck (h := ?_)))
        apply r_body; apply res1 Try.results48; exact rV_; intro w' hw
        exact ⟨rfl, hw.below (by simp)⟩
/-! ## the sources that are taken -/
def TS (tk : List (Int × Int)) : List ((Int × Int) × Bool) := tk.map fun s => (s, true)
theorem TS_nodup {tk : List (Int × Int)} (h : tk.Nodup) : ((TS tk).map Prod.fst).Nodup := by
  have : (TS tk).map Prod.fst = tk := by rw [TS, List.map_map]; exact (List.map_congr_left fun _ _ => rfl).trans (List.map_id _)
  rw [this]; exact h
theorem TS_in {tk : List (Int × Int)} {s : Int × Int} (h : s ∈ tk) (hn : tk.Nodup) : asF s (TS tk) = some true := by
  obtain ⟨j, hj⟩ := List.getElem?_of_mem h
  exact asF_at (TS_nodup hn) (j := j) (by rw [TS, List.getElem?_map, hj]; rfl)
theorem TS_out {tk : List (Int × Int)} {s : Int × Int} (h : s ∉ tk) : asF s (TS tk) = none := by
  rw [asF_none]
  intro p hp
  obtain ⟨x, hx, rfl⟩ := List.mem_map.1 hp
  intro e
  exact h (e ▸ hx)
theorem TS_put {tk : List (Int × Int)} {s : Int × Int} (h : s ∉ tk) : putF s true (TS tk) = TS (tk ++ [s]) := by
  rw [putF_new (TS_out h)]; simp [TS]
theorem nodup_snoc {α : Type} {l : List α} {x : α} (h : l.Nodup) (hx : x ∉ l) : (l ++ [x]).Nodup := by
  rw [List.nodup_append]
  refine ⟨h, by simp, fun a ha b hb e => ?_⟩
  simp at hb; subst hb; subst e; exact hx ha
theorem srcs_snoc (ps : List (Int × Int)) : ∀ (l tk : List (Int × Int)) (s : Int × Int), Plt.srcsOk ps tk (l ++ [s]) ↔ Plt.srcsOk ps tk l ∧ (Plt.srcOk ps s ∧ s ∉ tk ++ l)
  | [], tk, s => by simp [Plt.srcsOk]
  | a :: l, tk, s => by
    rw [List.cons_append, Plt.srcsOk, Plt.srcsOk, srcs_snoc ps l]
    rw [List.append_assoc, List.singleton_append]
    constructor
    · rintro ⟨h1, h2, h3⟩; exact ⟨⟨h1, h2⟩, h3⟩
    · rintro ⟨⟨h1, h2⟩, h3⟩; exact ⟨h1, h2, h3⟩
theorem srcs_take {ps tk l : List (Int × Int)} (h : Plt.srcsOk ps tk l) (i : Nat) : Plt.srcsOk ps tk (l.take i) := by
  have : ∀ (l tk : List (Int × Int)) (i : Nat), Plt.srcsOk ps tk l → Plt.srcsOk ps tk (l.take i) := by
    intro l
    induction l with
    | nil => intro tk i _; simp [Plt.srcsOk]
    | cons a l ih =>
      intro tk i h
      cases i with
      | zero => simp [Plt.srcsOk]
      | succ i => exact ⟨h.1, ih _ _ h.2⟩
  exact this l tk i h
theorem rows_snoc (n : Int) : ∀ (l : List Plt.Row) (met : List Int) (e : Plt.Row), Plt.rowsOk n met (l ++ [e]) ↔ Plt.rowsOk n met l ∧ (e.stop ∉ met ++ l.map Plt.Row.stop ∧ 0 ≤ e.st ∧ e.st < n)
  | [], met, e => by simp [Plt.rowsOk]
  | a :: l, met, e => by
    rw [List.cons_append, Plt.rowsOk, Plt.rowsOk, rows_snoc n l, List.map_cons, List.append_assoc, List.singleton_append]
    constructor
    · rintro ⟨h1, h2, h3⟩; exact ⟨⟨h1, h2⟩, h3⟩
    · rintro ⟨⟨h1, h2⟩, h3⟩; exact ⟨h1, h2, h3⟩
theorem rows_take {n : Int} : ∀ {l : List Plt.Row} {met : List Int} (i : Nat), Plt.rowsOk n met l → Plt.rowsOk n met (l.take i)
  | [], _, i, _ => by simp [Plt.rowsOk]
  | a :: l, met, 0, _ => by simp [Plt.rowsOk]
  | a :: l, met, i + 1, h => ⟨h.1, rows_take i h.2⟩
def chk (bc bm bp bt : Nat) (msl ps tk : List (Int × Int)) : List Ent := [⟨bc, Ce [.map (some bm), .map (some bp), .map (some bt)] 100, true⟩, ⟨bm, MO (MM kI kI msl), true⟩, ⟨bp, MO (MM kI kI ps), true⟩, ⟨bt, MO (MM kP vB (TS tk)), true⟩]
theorem chk_own {bc bm bp bt : Nat} {msl ps tk : List (Int × Int)} : ∀ x ∈ chk bc bm bp bt msl ps tk, x.own = true := by simp [chk]
theorem source_is {bc bm bp bt : Nat} {ps : List (Int × Int)} {s1 s2 : Int} {b : Bool} (hb : decide (Plt.srcOk ps (s1, s2)) = b) (hn : (ps.map Prod.fst).Nodup) (w : World) (h1 : w.heap[bc]? = some (Ce [.map (some bm), .map (some bp), .map (some bt)] 100)) (h2 : w.heap[bp]? = some (MO (MM kI kI ps))) :
    Calls Try.prog 48 #[ptr bc, .agg #[.int .i64 s1, .int .i64 s2]] w fun e w' => e = .returned (.bool b) ∧ Below w.heap.size w w' := by
  have := source_calls (s1 := s1) (s2 := s2) w h1 h2 hn; rwa [hb] at this
end Go.Proofs.Ytkhaemjoekfhiaa
namespace Go.Proofs.Ytkhaemjoekfhiaa
open Go Go.Sx Go.RowKit
attribute [local irreducible] WL WC WQ WR WB WF QB St Exit.then Exit.inBlock Exit.noGoto bodyPost roundPost beginK YR RG BM Calls B AgainD MeetD
/-! ## one pass -/
set_option maxHeartbeats 8000000 in
set_option maxRecDepth 100000 in
theorem pass_calls {w0 w : World} {L0 : List Ent} {bc bm bp bt : Nat} {msl ps tk : List (Int × Int)} {y : Plt.Pass} {d : PD} (hL0 : ∀ x ∈ L0, x.own = true) (hw : Rep w0 w (chk bc bm bp bt msl ps tk ++ L0)) (hy : PassV w0 d y) (hm : (msl.map Prod.fst).Nodup) (hp : (ps.map Prod.fst).Nodup) (ht : tk.Nodup) :
    Calls Try.prog 29 #[ptr bc, .agg #[.int .i64 d.id, .int .i64 d.mach, .int .i64 d.rel, sdV d.src, sdV d.table, sdV d.unread]] w fun e w' => ∃ r G', e = .returned r ∧ (r = .bool (decide (Plt.passOk msl ps tk y)) ∧ ∃ tk', G' = chk bc bm bp bt msl ps tk' ∧ tk'.Nodup ∧ (Plt.passOk msl ps tk y → tk' = tk ++ y.src)) ∧ Rep w0 w' (G' ++ L0) := by
  obtain ⟨id, ma, re, ⟨a1, n1, c1⟩, ⟨a2, n2, c2⟩, ⟨a3, n3, c3⟩⟩ := d
  obtain ⟨e1, e2, e3, hs, hr, hu⟩ := hy
  dsimp only [sdV] at e1 e2 e3 hs hr hu ⊢
  subst e1 e2 e3
  obtain ⟨_, _, e1, hc1, hop1⟩ := hs.open
  cases e1
  obtain ⟨_, _, e2, hc2, hop2⟩ := hr.open
  cases e2
  obtain ⟨_, _, e3, hc3, -⟩ := hu.open
  cases e3
  rw [← List.append_nil L0] at hw ⊢
  unfold chk at hw
  simp only [List.cons_append, List.nil_append] at hw
  by_cases hh : Plt.headOk msl ps y
  case neg =>
    rw [decide_eq_false (fun h : Plt.passOk msl ps tk y => hh h.1)]
    have hh' := hh
    unfold Plt.headOk Plt.idOk at hh'
    cases o2 : asF y.id ps with
    | some z =>
      cases o1 : asF y.mach msl with
      | some n =>
        as_aux_lemma =>
          refine f_enterF2 Try.func29 rfl Try.ntmps29 rfl (hw) ?_
          repeat' (first | ((with_reducible apply q_lookMT_in (κ := kI) (ν := kI) (k := y.mach)); infer_instance; infer_instance; exact rfl; exact rfl; exact sJ_; exact rfl; exact kN_; assumption; assumption; exact rfl) | ((with_reducible apply q_lookMT_in (κ := kI) (ν := kI) (k := y.id)); infer_instance; infer_instance; exact rfl; exact rfl; exact sJ_; exact rfl; exact kN_; assumption; assumption; exact rfl) | ((with_reducible first | apply o_move | apply o_assign | apply o_faddr0 | apply o_not_d | apply o_nilCheck); exact rfl; exact rfl) | ((with_reducible apply o_pick_t); exact rfl; exact tT_; exact rfl; exact rfl) | ((with_reducible apply o_box); exact rfl; exact rfl; exact rfl; intro _) | ((with_reducible apply g_skip); exact rfl; exact gG_; exact rfl) | ((with_reducible first | apply c_seq | apply c_block | apply c_region | apply c_nil | apply c_ret | apply c_exit | apply c_skip)) | ((with_reducible apply c_cond_t); exact rfl; exact tT_) | ((with_reducible first | apply e_then | apply e_then_ret | apply e_then_exit | apply e_in | apply e_in_ret | apply e_in_same)) | ((with_reducible apply c_regionD0 (id := 1) []); kernel_rfl; kernel_rfl) | ((with_reducible apply c_regionD0 (id := 2) []); kernel_rfl; kernel_rfl) | ((with_reducible apply q_nil); try simp only [ents, List.cons_append, List.nil_append]) | ((with_reducible first | apply q_move | apply q_assign | apply q_faddr0); exact rfl; exact rfl) | ((with_reducible apply gdq_load); first | refine wq_load (h := ?_) | refine wq_loadAll (h := ?_) | refine wq_loadC (h := ?_) | refine wq_ldF (h := ?_)) | ((with_reducible first | apply q_lss | apply q_gtr | apply q_geq | apply q_extract); exact rfl; exact rfl; exact rfl) | ((with_reducible apply gdq_nilCheck); refine wq_nilCheck (h := ?_)))
          apply r_body; apply res1 Try.results29; exact rV_; intro w' hw
          exact ⟨_, _, rfl, ⟨rfl, tk, rfl, ht, fun h => absurd h.1 hh⟩, hw.sub (by unfold chk; simp only [List.cons_append, List.nil_append]; exact hS_)⟩
      | none =>
        as_aux_lemma =>
          refine f_enterF2 Try.func29 rfl Try.ntmps29 rfl (hw) ?_
          repeat' (first | ((with_reducible apply q_lookMT_out (κ := kI) (ν := kI) (k := y.mach)); infer_instance; infer_instance; infer_instance; exact rfl; exact rfl; exact sJ_; exact rfl; exact kN_; assumption; exact rfl) | ((with_reducible apply q_lookMT_in (κ := kI) (ν := kI) (k := y.id)); infer_instance; infer_instance; exact rfl; exact rfl; exact sJ_; exact rfl; exact kN_; assumption; assumption; exact rfl) | ((with_reducible first | apply o_move | apply o_assign | apply o_faddr0 | apply o_not_d | apply o_nilCheck); exact rfl; exact rfl) | ((with_reducible apply o_pick_t); exact rfl; exact tT_; exact rfl; exact rfl) | ((with_reducible apply o_box); exact rfl; exact rfl; exact rfl; intro _) | ((with_reducible apply g_skip); exact rfl; exact gG_; exact rfl) | ((with_reducible first | apply c_seq | apply c_block | apply c_region | apply c_nil | apply c_ret | apply c_exit | apply c_skip)) | ((with_reducible apply c_cond_t); exact rfl; exact tT_) | ((with_reducible first | apply e_then | apply e_then_ret | apply e_then_exit | apply e_in | apply e_in_ret | apply e_in_same)) | ((with_reducible apply c_regionD0 (id := 1) []); kernel_rfl; kernel_rfl) | ((with_reducible apply c_regionD0 (id := 2) []); kernel_rfl; kernel_rfl) | ((with_reducible apply q_nil); try simp only [ents, List.cons_append, List.nil_append]) | ((with_reducible first | apply q_move | apply q_assign | apply q_faddr0); exact rfl; exact rfl) | ((with_reducible apply gdq_load); first | refine wq_load (h := ?_) | refine wq_loadAll (h := ?_) | refine wq_loadC (h := ?_) | refine wq_ldF (h := ?_)) | ((with_reducible first | apply q_lss | apply q_gtr | apply q_geq | apply q_extract); exact rfl; exact rfl; exact rfl) | ((with_reducible apply gdq_nilCheck); refine wq_nilCheck (h := ?_)))
          apply r_body; apply res1 Try.results29; exact rV_; intro w' hw
          exact ⟨_, _, rfl, ⟨rfl, tk, rfl, ht, fun h => absurd h.1 hh⟩, hw.sub (by unfold chk; simp only [List.cons_append, List.nil_append]; exact hS_)⟩
    | none =>
      cases o1 : asF y.mach msl with
      | none =>
        as_aux_lemma =>
          refine f_enterF2 Try.func29 rfl Try.ntmps29 rfl (hw) ?_
          repeat' (first | ((with_reducible apply q_lookMT_out (κ := kI) (ν := kI) (k := y.mach)); infer_instance; infer_instance; infer_instance; exact rfl; exact rfl; exact sJ_; exact rfl; exact kN_; assumption; exact rfl) | ((with_reducible apply q_lookMT_out (κ := kI) (ν := kI) (k := y.id)); infer_instance; infer_instance; infer_instance; exact rfl; exact rfl; exact sJ_; exact rfl; exact kN_; assumption; exact rfl) | ((with_reducible first | apply o_move | apply o_assign | apply o_faddr0 | apply o_not_d | apply o_nilCheck); exact rfl; exact rfl) | ((with_reducible apply o_not); exact rfl; exact rfl) | ((with_reducible apply o_pick_t); exact rfl; exact tT_; exact rfl; exact rfl) | ((with_reducible apply o_pick_f); exact rfl; exact fF_; exact rfl; exact rfl) | ((with_reducible apply o_box); exact rfl; exact rfl; exact rfl; intro _) | ((with_reducible first | apply g_run); exact rfl; exact gG_) | ((with_reducible apply g_skip); exact rfl; exact gG_; exact rfl) | ((with_reducible first | apply c_seq | apply c_block | apply c_region | apply c_nil | apply c_ret | apply c_exit | apply c_skip)) | ((with_reducible apply c_cond_t); exact rfl; exact tT_) | ((with_reducible first | apply e_then | apply e_then_ret | apply e_then_exit | apply e_in | apply e_in_ret | apply e_in_same)) | ((with_reducible apply c_regionD0 (id := 1) []); kernel_rfl; kernel_rfl) | ((with_reducible apply c_regionD0 (id := 2) []); kernel_rfl; kernel_rfl) | ((with_reducible apply q_nil); try simp only [ents, List.cons_append, List.nil_append]) | ((with_reducible first | apply q_move | apply q_assign | apply q_faddr0); exact rfl; exact rfl) | ((with_reducible apply gdq_load); first | refine wq_load (h := ?_) | refine wq_loadAll (h := ?_) | refine wq_loadC (h := ?_) | refine wq_ldF (h := ?_)) | ((with_reducible first | apply q_lss | apply q_gtr | apply q_geq | apply q_extract); exact rfl; exact rfl; exact rfl) | ((with_reducible apply gdq_nilCheck); refine wq_nilCheck (h := ?_)))
          apply r_body; apply res1 Try.results29; exact rV_; intro w' hw
          exact ⟨_, _, rfl, ⟨rfl, tk, rfl, ht, fun h => absurd h.1 hh⟩, hw.sub (by unfold chk; simp only [List.cons_append, List.nil_append]; exact hS_)⟩
      | some n =>
        have hno : ¬ ((1 ≤ y.id ∧ y.id ≤ 999999) ∧ 0 ≤ y.rel ∧ y.rel ≤ 1051898399) := fun h => hh' ⟨⟨o2, by rw [o1]; rfl⟩, h⟩
        clear hh'
        as_aux_lemma =>
          refine f_enterF2 Try.func29 rfl Try.ntmps29 rfl (hw) ?_
          repeat' (first | ((with_reducible apply q_lookMT_in (κ := kI) (ν := kI) (k := y.mach)); infer_instance; infer_instance; exact rfl; exact rfl; exact sJ_; exact rfl; exact kN_; assumption; assumption; exact rfl) | ((with_reducible apply q_lookMT_out (κ := kI) (ν := kI) (k := y.id)); infer_instance; infer_instance; infer_instance; exact rfl; exact rfl; exact sJ_; exact rfl; exact kN_; assumption; exact rfl) | ((first | ((with_reducible apply o_call_pure (f := 28)); exact rfl) | ((with_reducible apply q_call_pure (f := 28)); exact rfl; kernel_rfl; exact rfl; exact sJ_)); exact eV_; exact (fun w hw => id_calls y.id w)) | ((with_reducible first | apply o_move | apply o_assign | apply o_faddr0 | apply o_not_d | apply o_nilCheck); exact rfl; exact rfl) | ((with_reducible apply gdo_load); first | refine wo_load (h := ?_) | refine wo_loadAll (h := ?_) | refine wo_loadC (h := ?_) | refine wo_ldV (h := ?_) | refine wo_ldF (h := ?_)) | ((with_reducible first | apply o_lss | apply o_gtr | apply o_geq | apply o_extract); exact rfl; exact rfl; exact rfl) | ((with_reducible apply o_not); exact rfl; exact rfl) | ((with_reducible apply o_pick_t); exact rfl; exact tT_; exact rfl; exact rfl) | ((with_reducible apply o_pick_f); exact rfl; exact fF_; exact rfl; exact rfl) | ((with_reducible apply o_box); exact rfl; exact rfl; exact rfl; intro _) | ((with_reducible first | apply g_run); exact rfl; exact gG_) | ((with_reducible apply g_skip); exact rfl; exact gG_; exact rfl) | ((with_reducible first | apply c_seq | apply c_block | apply c_region | apply c_nil | apply c_ret | apply c_exit | apply c_skip)) | ((with_reducible apply c_cond_t); exact rfl; exact tT_) | ((with_reducible first | apply e_then | apply e_then_ret | apply e_then_exit | apply e_in | apply e_in_ret | apply e_in_same)) | ((with_reducible apply c_regionD0 (id := 1) []); kernel_rfl; kernel_rfl) | ((with_reducible apply c_regionD0 (id := 2) []); kernel_rfl; kernel_rfl) | ((with_reducible apply q_nil); try simp only [ents, List.cons_append, List.nil_append]) | ((with_reducible first | apply q_move | apply q_assign | apply q_faddr0); exact rfl; exact rfl) | ((with_reducible apply gdq_load); first | refine wq_load (h := ?_) | refine wq_loadAll (h := ?_) | refine wq_loadC (h := ?_) | refine wq_ldF (h := ?_)) | ((with_reducible first | apply q_lss | apply q_gtr | apply q_geq | apply q_extract); exact rfl; exact rfl; exact rfl) | ((with_reducible apply gdq_nilCheck); refine wq_nilCheck (h := ?_)) | ((with_reducible apply g_split_d); exact rfl; intro hcond; rotate_left; intro hcond; rotate_left))
          all_goals first
            | (exfalso; omega)
            | (apply r_body; apply res1 Try.results29; exact rV_; intro w' hw
               exact ⟨_, _, rfl, ⟨rfl, tk, rfl, ht, fun h => absurd h.1 hh⟩, hw.sub (by unfold chk; simp only [List.cons_append, List.nil_append]; exact hS_)⟩)
  have hh' := hh
  unfold Plt.headOk Plt.idOk at hh'
  obtain ⟨⟨o2, o1'⟩, hid⟩ := hh'
  obtain ⟨n, o1⟩ := Option.isSome_iff_exists.1 o1'
  clear o1'
  refine f_enterF2 Try.func29 rfl Try.ntmps29 rfl (hw) ?_
  repeat' (first | ((with_reducible apply c_cond_f); exact rfl; exact decide_eq_false (by omega)) | ((with_reducible apply o_pick_f); exact rfl; exact decide_eq_false (by omega); exact rfl; exact rfl) | ((with_reducible apply g_run); exact rfl; exact decide_eq_false (by omega)) | ((with_reducible apply q_lookMT_in (κ := kI) (ν := kI) (k := y.mach)); infer_instance; infer_instance; exact rfl; exact rfl; exact sJ_; exact rfl; exact kN_; assumption; assumption; exact rfl) | ((with_reducible apply q_lookMT_out (κ := kI) (ν := kI) (k := y.id)); infer_instance; infer_instance; infer_instance; exact rfl; exact rfl; exact sJ_; exact rfl; exact kN_; assumption; exact rfl) | ((first | ((with_reducible apply o_call_pure (f := 28)); exact rfl) | ((with_reducible apply q_call_pure (f := 28)); exact rfl; kernel_rfl; exact rfl; exact sJ_)); exact eV_; exact (fun w hw => id_calls y.id w)) | ((with_reducible first | apply o_move | apply o_assign | apply o_faddr0 | apply o_not_d | apply o_nilCheck); exact rfl; exact rfl) | ((with_reducible apply gdo_load); first | refine wo_load (h := ?_) | refine wo_loadAll (h := ?_) | refine wo_loadC (h := ?_) | refine wo_ldV (h := ?_) | refine wo_ldF (h := ?_)) | ((with_reducible first | apply o_lss | apply o_gtr | apply o_geq | apply o_extract); exact rfl; exact rfl; exact rfl) | ((with_reducible apply o_not); exact rfl; exact rfl) | ((with_reducible apply o_pick_f); exact rfl; exact fF_; exact rfl; exact rfl) | ((with_reducible apply o_box); exact rfl; exact rfl; exact rfl; intro _) | ((with_reducible apply o_len); infer_instance; exact rfl; exact rfl) | ((with_reducible first | apply g_run); exact rfl; exact gG_) | ((with_reducible first | apply c_seq | apply c_block | apply c_region | apply c_nil | apply c_ret | apply c_exit | apply c_skip)) | ((with_reducible first | apply e_then | apply e_then_ret | apply e_then_exit | apply e_in | apply e_in_ret | apply e_in_same)) | ((with_reducible apply c_regionD0 (id := 1) []); kernel_rfl; kernel_rfl) | ((with_reducible apply c_regionD0 (id := 2) []); kernel_rfl; kernel_rfl) | ((with_reducible apply q_nil); try simp only [ents, List.cons_append, List.nil_append]) | ((with_reducible first | apply q_move | apply q_assign | apply q_faddr0); exact rfl; exact rfl) | ((with_reducible apply gdq_load); first | refine wq_load (h := ?_) | refine wq_loadAll (h := ?_) | refine wq_loadC (h := ?_) | refine wq_ldF (h := ?_)) | ((with_reducible first | apply q_lss | apply q_gtr | apply q_geq | apply q_extract); exact rfl; exact rfl; exact rfl) | ((with_reducible apply gdq_nilCheck); refine wq_nilCheck (h := ?_)))
  rename_i b3
  apply c_loop (σ := Nat) (Fs := fun i => [(58, .int .i64 i), (57, .int .i64 y.src.length), (56, .slice a1 y.src.length c1), (5, .int .i64 n), (3, ptr b3), (0, ptr bc)])
    (Ls := fun i => ⟨b3, Ce [.int .i64 y.id, .int .i64 y.mach, .int .i64 y.rel, .slice a1 y.src.length c1, .slice a2 y.table.length c2, .slice a3 y.unread.length c3] 58, true⟩ :: ⟨bc, Ce [.map (some bm), .map (some bp), .map (some bt)] 100, true⟩ :: ⟨bm, MO (MM kI kI msl), true⟩ :: ⟨bp, MO (MM kI kI ps), true⟩ :: ⟨bt, MO (MM kP vB (TS (tk ++ y.src.take i))), true⟩ :: (L0 ++ []))
    (I := fun i => i ≤ y.src.length ∧ (tk ++ y.src.take i).Nodup ∧ Plt.srcsOk ps tk (y.src.take i)) (μ := fun i => y.src.length - i) (s0 := 0)
  · exact ⟨Nat.zero_le _, by simpa using ht, by simp [Plt.srcsOk]⟩
  · exact fS_
  · simp only [List.take_zero, List.append_nil]; exact hS_
  rintro i ⟨hi, hnd, hso⟩
  by_cases hlt : i < y.src.length
  · obtain ⟨⟨s1, s2⟩, hx⟩ : ∃ s, y.src[i]? = some s := ⟨_, List.getElem?_eq_getElem hlt⟩
    obtain ⟨b, off, cc, e, fz, rfl, hk, hpt⟩ := hop1 (by omega)
    have g1 : ∀ j u, ([.int .i64 s1, .int .i64 s2] : List Value)[j]? = some u → cc[off + i * 2 + j]? = some u := hpt.get hx
    have etk : y.src.take (i + 1) = y.src.take i ++ [(s1, s2)] := take_snoc hx
    have hne : ¬ (Plt.srcOk ps (s1, s2) ∧ (s1, s2) ∉ tk ++ y.src.take i) → ¬ Plt.passOk msl ps tk y := fun h1 h2 => h1 (by
      have := srcs_take h2.2.1 (i + 1)
      rw [etk, srcs_snoc] at this
      exact this.2)
    have hnx : (s1, s2) ∉ tk ++ y.src.take i → Plt.srcOk ps (s1, s2) → Plt.srcsOk ps tk (y.src.take (i + 1)) := fun h1 h2 => by rw [etk, srcs_snoc]; exact ⟨hso, h2, h1⟩
    have hnn : (s1, s2) ∉ tk ++ y.src.take i → (tk ++ y.src.take (i + 1)).Nodup := fun h1 => by rw [etk, ← List.append_assoc]; exact nodup_snoc hnd h1
    have htt : (s1, s2) ∉ tk ++ y.src.take i → putF (s1, s2) true (TS (tk ++ y.src.take i)) = TS (tk ++ y.src.take (i + 1)) := fun h1 => by rw [TS_put h1, etk, List.append_assoc]
    generalize htki : tk ++ y.src.take i = tki at hnd hne hnx hnn htt ⊢
    have hkn := TS_nodup hnd
    cases hb : decide (Plt.srcOk ps (s1, s2)) with
    | false =>
      rw [decide_eq_false (hne fun h => of_decide_eq_false hb h.1)]
      have hne' := hne fun h => of_decide_eq_false hb h.1
      as_aux_lemma =>
        repeat' (first | ((with_reducible apply c_cond_t); exact rfl; exact decide_eq_true (by omega)) | ((first | ((with_reducible apply o_call_pure (f := 48)); exact rfl) | ((with_reducible apply q_call_pure (f := 48)); exact rfl; kernel_rfl; exact rfl; exact sJ_)); exact eV_; exact (fun w hw => source_is hb hp w (hw.at (by exact aT_)) (hw.at (by exact aT_)))) | ((with_reducible first | apply o_move | apply o_assign | apply o_faddr0 | apply o_not_d | apply o_nilCheck); exact rfl; exact rfl) | ((with_reducible apply gdo_load); first | refine wo_load (h := ?_) | refine wo_loadAll (h := ?_) | refine wo_loadC (h := ?_) | refine wo_ldV (h := ?_) | refine wo_ldF (h := ?_)) | ((with_reducible first | apply o_lss | apply o_gtr | apply o_geq | apply o_extract); exact rfl; exact rfl; exact rfl) | ((with_reducible first | apply o_alloc | apply o_makeMap0); exact rfl; intro _) | ((with_reducible apply gdo_store); first | refine wo_store1 (h := ?_) | refine wo_storeA (h := ?_)) | ((with_reducible apply o_idx); infer_instance; infer_instance; exact rfl; exact rfl; (first | exact rfl | omega); exact rfl; (first | assumption | omega | decide)) | ((with_reducible first | apply c_seq | apply c_block | apply c_region | apply c_nil | apply c_ret | apply c_exit | apply c_skip)) | ((with_reducible apply c_cond_t); exact rfl; exact tT_) | ((with_reducible first | apply e_then | apply e_then_ret | apply e_then_exit | apply e_in | apply e_in_ret | apply e_in_same)) | ((with_reducible apply c_regionD0 (id := 8) []); kernel_rfl; kernel_rfl) | ((with_reducible apply q_nil); try simp only [ents, List.cons_append, List.nil_append]) | ((with_reducible first | apply q_move | apply q_assign | apply q_faddr0); exact rfl; exact rfl) | ((with_reducible apply gdq_load); first | refine wq_load (h := ?_) | refine wq_loadAll (h := ?_) | refine wq_loadC (h := ?_) | refine wq_ldF (h := ?_)) | ((with_reducible apply q_not); exact rfl; exact rfl) | ((with_reducible apply q_pick_t); exact rfl; exact tT_; exact rfl; exact rfl) | ((with_reducible apply h_skip); exact rfl; exact gG_; exact rfl))
        apply r_body; apply res1 Try.results29; exact rV_; intro w' hw
        exact ⟨_, _, rfl, ⟨rfl, tki, rfl, hnd, fun h => absurd h hne'⟩, hw.sub (by unfold chk; simp only [List.cons_append, List.nil_append]; exact hS_)⟩
    | true =>
      have hok := of_decide_eq_true hb
      by_cases hin : (s1, s2) ∈ tki
      · have ho := TS_in hin hnd
        have hne' := hne fun h => h.2 hin
        rw [decide_eq_false hne']
        as_aux_lemma =>
          repeat' (first | ((with_reducible apply c_cond_t); exact rfl; exact decide_eq_true (by omega)) | ((first | ((with_reducible apply o_call_pure (f := 48)); exact rfl) | ((with_reducible apply q_call_pure (f := 48)); exact rfl; kernel_rfl; exact rfl; exact sJ_)); exact eV_; exact (fun w hw => source_is hb hp w (hw.at (by exact aT_)) (hw.at (by exact aT_)))) | ((with_reducible apply q_lookM_in (κ := kP) (ν := vB) (k := (s1, s2))); infer_instance; infer_instance; exact rfl; exact rfl; exact sJ_; exact rfl; exact kN_; assumption; assumption; exact rfl) | ((with_reducible first | apply o_move | apply o_assign | apply o_faddr0 | apply o_not_d | apply o_nilCheck); exact rfl; exact rfl) | ((with_reducible apply gdo_load); first | refine wo_load (h := ?_) | refine wo_loadAll (h := ?_) | refine wo_loadC (h := ?_) | refine wo_ldV (h := ?_) | refine wo_ldF (h := ?_)) | ((with_reducible first | apply o_lss | apply o_gtr | apply o_geq | apply o_extract); exact rfl; exact rfl; exact rfl) | ((with_reducible first | apply o_alloc | apply o_makeMap0); exact rfl; intro _) | ((with_reducible apply gdo_store); first | refine wo_store1 (h := ?_) | refine wo_storeA (h := ?_)) | ((with_reducible apply o_idx); infer_instance; infer_instance; exact rfl; exact rfl; (first | exact rfl | omega); exact rfl; (first | assumption | omega | decide)) | ((with_reducible first | apply c_seq | apply c_block | apply c_region | apply c_nil | apply c_ret | apply c_exit | apply c_skip)) | ((with_reducible apply c_cond_t); exact rfl; exact tT_) | ((with_reducible first | apply e_then | apply e_then_ret | apply e_then_exit | apply e_in | apply e_in_ret | apply e_in_same)) | ((with_reducible apply c_regionD0 (id := 8) []); kernel_rfl; kernel_rfl) | ((with_reducible apply q_nil); try simp only [ents, List.cons_append, List.nil_append]) | ((with_reducible first | apply q_move | apply q_assign | apply q_faddr0); exact rfl; exact rfl) | ((with_reducible apply gdq_load); first | refine wq_load (h := ?_) | refine wq_loadAll (h := ?_) | refine wq_loadC (h := ?_) | refine wq_ldF (h := ?_)) | ((with_reducible apply q_not); exact rfl; exact rfl) | ((with_reducible apply q_pick_f); exact rfl; exact fF_; exact rfl; exact rfl) | ((with_reducible apply gdq_nilCheck); refine wq_nilCheck (h := ?_)) | ((with_reducible first | apply h_run); exact rfl; exact gG_))
          apply r_body; apply res1 Try.results29; exact rV_; intro w' hw
          exact ⟨_, _, rfl, ⟨rfl, tki, rfl, hnd, fun h => absurd h hne'⟩, hw.sub (by unfold chk; simp only [List.cons_append, List.nil_append]; exact hS_)⟩
      · have ho := TS_out hin
        have h1 := hnx hin hok
        have h2 := hnn hin
        have h3 := htt hin
        as_aux_lemma =>
          repeat' (first | ((with_reducible apply c_cond_t); exact rfl; exact decide_eq_true (by omega)) | ((first | ((with_reducible apply o_call_pure (f := 48)); exact rfl) | ((with_reducible apply q_call_pure (f := 48)); exact rfl; kernel_rfl; exact rfl; exact sJ_)); exact eV_; exact (fun w hw => source_is hb hp w (hw.at (by exact aT_)) (hw.at (by exact aT_)))) | ((with_reducible apply q_lookM_out (κ := kP) (ν := vB) (k := (s1, s2))); infer_instance; infer_instance; infer_instance; exact rfl; exact rfl; exact sJ_; exact rfl; exact kN_; assumption; exact rfl) | ((with_reducible apply c_regionD (id := 10) [] 5); kernel_rfl; kernel_rfl; simp only [List.take_succ_cons, List.take_zero, List.drop_succ_cons, List.drop_zero]) | ((with_reducible apply o_mapPut (κ := kP) (ν := vB) (k := (s1, s2)) (v := true)); infer_instance; infer_instance; exact rfl; exact rfl; exact rfl; exact aT_; assumption; exact uP_) | ((with_reducible first | apply o_move | apply o_assign | apply o_faddr0 | apply o_not_d | apply o_nilCheck); exact rfl; exact rfl) | ((with_reducible apply gdo_load); first | refine wo_load (h := ?_) | refine wo_loadAll (h := ?_) | refine wo_loadC (h := ?_) | refine wo_ldV (h := ?_) | refine wo_ldF (h := ?_)) | ((with_reducible first | apply o_lss | apply o_gtr | apply o_geq | apply o_extract); exact rfl; exact rfl; exact rfl) | ((with_reducible apply o_add); exact rfl; exact rfl; exact rfl; (constructor <;> omega)) | ((with_reducible first | apply o_alloc | apply o_makeMap0); exact rfl; intro _) | ((with_reducible apply gdo_store); first | refine wo_store1 (h := ?_) | refine wo_storeA (h := ?_)) | ((with_reducible apply o_idx); infer_instance; infer_instance; exact rfl; exact rfl; (first | exact rfl | omega); exact rfl; (first | assumption | omega | decide)) | ((with_reducible first | apply c_seq | apply c_block | apply c_region | apply c_nil | apply c_ret | apply c_exit | apply c_skip)) | ((with_reducible apply c_cond_f); exact rfl; exact fF_) | ((with_reducible first | apply e_then | apply e_then_ret | apply e_then_exit | apply e_in | apply e_in_ret | apply e_in_same)) | ((with_reducible apply c_regionD0 (id := 8) []); kernel_rfl; kernel_rfl) | ((with_reducible apply q_nil); try simp only [ents, List.cons_append, List.nil_append]) | ((with_reducible first | apply q_move | apply q_assign | apply q_faddr0); exact rfl; exact rfl) | ((with_reducible apply gdq_load); first | refine wq_load (h := ?_) | refine wq_loadAll (h := ?_) | refine wq_loadC (h := ?_) | refine wq_ldF (h := ?_)) | ((with_reducible apply q_not); exact rfl; exact rfl) | ((with_reducible apply q_pick_f); exact rfl; exact fF_; exact rfl; exact rfl) | ((with_reducible apply gdq_nilCheck); refine wq_nilCheck (h := ?_)) | ((with_reducible first | apply h_run); exact rfl; exact gG_))
          refine l_again (i + 1) ⟨by omega, h2, h1⟩ (by omega) ?_ ?_
          · exact fS_
          · (try dsimp only); rw [← h3]; exact hS_
  obtain rfl : i = y.src.length := by omega
  rw [List.take_length] at hnd hso ⊢
  have hkn := TS_nodup hnd
  by_cases hlen : y.table.length ≤ 1000 ∧ y.unread.length ≤ 2000
  case neg =>
    have hne' : ¬ Plt.passOk msl ps tk y := fun h => hlen h.2.2.1
    rw [decide_eq_false hne']
    as_aux_lemma =>
      repeat' (first | ((with_reducible first | apply o_move | apply o_assign | apply o_faddr0 | apply o_not_d | apply o_nilCheck); exact rfl; exact rfl) | ((with_reducible apply gdo_load); first | refine wo_load (h := ?_) | refine wo_loadAll (h := ?_) | refine wo_loadC (h := ?_) | refine wo_ldV (h := ?_) | refine wo_ldF (h := ?_)) | ((with_reducible first | apply o_lss | apply o_gtr | apply o_geq | apply o_extract); exact rfl; exact rfl; exact rfl) | ((with_reducible apply o_pick_t); exact rfl; exact tT_; exact rfl; exact rfl) | ((with_reducible apply o_pick_f); exact rfl; exact fF_; exact rfl; exact rfl) | ((with_reducible apply o_len); infer_instance; exact rfl; exact rfl) | ((with_reducible first | apply g_run); exact rfl; exact gG_) | ((with_reducible apply g_skip); exact rfl; exact gG_; exact rfl) | ((with_reducible first | apply c_seq | apply c_block | apply c_region | apply c_nil | apply c_ret | apply c_exit | apply c_skip)) | ((with_reducible apply c_cond_t); exact rfl; exact tT_) | ((with_reducible apply c_cond_f); exact rfl; exact fF_) | ((with_reducible first | apply e_then | apply e_then_ret | apply e_then_exit | apply e_in | apply e_in_ret | apply e_in_same)) | ((with_reducible apply g_split_d); exact rfl; intro hcond; rotate_left; intro hcond; rotate_left))
      all_goals first
        | (exfalso; omega)
        | (apply r_body; apply res1 Try.results29; exact rV_; intro w' hw
           exact ⟨_, _, rfl, ⟨rfl, tk ++ y.src, rfl, hnd, fun h => absurd h hne'⟩, hw.sub (by unfold chk; simp only [List.cons_append, List.nil_append]; exact hS_)⟩)
  repeat' (first | ((with_reducible apply c_cond_f); exact rfl; exact decide_eq_false (by omega)) | ((with_reducible apply o_pick_f); exact rfl; exact decide_eq_false (by omega); exact rfl; exact rfl) | ((with_reducible apply g_run); exact rfl; exact decide_eq_false (by omega)) | ((with_reducible first | apply o_move | apply o_assign | apply o_faddr0 | apply o_not_d | apply o_nilCheck); exact rfl; exact rfl) | ((with_reducible apply gdo_load); first | refine wo_load (h := ?_) | refine wo_loadAll (h := ?_) | refine wo_loadC (h := ?_) | refine wo_ldV (h := ?_) | refine wo_ldF (h := ?_)) | ((with_reducible first | apply o_lss | apply o_gtr | apply o_geq | apply o_extract); exact rfl; exact rfl; exact rfl) | ((with_reducible apply o_len); infer_instance; exact rfl; exact rfl) | ((with_reducible apply o_makeMap); infer_instance; exact rfl; exact rfl; intro _) | ((with_reducible first | apply c_seq | apply c_block | apply c_region | apply c_nil | apply c_ret | apply c_exit | apply c_skip)) | ((with_reducible first | apply e_then | apply e_then_ret | apply e_then_exit | apply e_in | apply e_in_ret | apply e_in_same)))
  rename_i bs
  apply c_loop (σ := Nat) (Fs := fun i => [(97, .int .i64 i), (96, .int .i64 y.table.length), (95, .slice a2 y.table.length c2), (11, .map (some bs)), (5, .int .i64 n), (3, ptr b3), (0, ptr bc)])
    (Ls := fun i => ⟨bs, MO (setM .i64 ((y.table.take i).map Plt.Row.stop)), true⟩ :: ⟨b3, Ce [.int .i64 y.id, .int .i64 y.mach, .int .i64 y.rel, .slice a1 y.src.length c1, .slice a2 y.table.length c2, .slice a3 y.unread.length c3] 58, true⟩ :: ⟨bc, Ce [.map (some bm), .map (some bp), .map (some bt)] 100, true⟩ :: ⟨bm, MO (MM kI kI msl), true⟩ :: ⟨bp, MO (MM kI kI ps), true⟩ :: ⟨bt, MO (MM kP vB (TS (tk ++ y.src))), true⟩ :: (L0 ++ []))
    (I := fun i => i ≤ y.table.length ∧ ((y.table.take i).map Plt.Row.stop).Nodup ∧ Plt.rowsOk n [] (y.table.take i)) (μ := fun i => y.table.length - i) (s0 := 0)
  · exact ⟨Nat.zero_le _, by simp, by simp [Plt.rowsOk]⟩
  · exact fS_
  · exact hS_
  rintro i ⟨hi, hns, hro⟩
  by_cases hlt : i < y.table.length
  · obtain ⟨⟨st, sk⟩, hx⟩ : ∃ s, y.table[i]? = some s := ⟨_, List.getElem?_eq_getElem hlt⟩
    obtain ⟨b, off, cc, e, fz, rfl, hk, hpt⟩ := hop2 (by omega)
    have g1 : ∀ j u, ([.int .i64 st, .int .i64 sk] : List Value)[j]? = some u → cc[off + i * 2 + j]? = some u := hpt.get hx
    have ett : y.table.take (i + 1) = y.table.take i ++ [⟨st, sk⟩] := take_snoc hx
    have eme : (y.table.take (i + 1)).map Plt.Row.stop = (y.table.take i).map Plt.Row.stop ++ [st] := by rw [ett]; simp
    have hne : ¬ (st ∉ (y.table.take i).map Plt.Row.stop ∧ 0 ≤ sk ∧ sk < n) → ¬ Plt.passOk msl ps tk y := fun h1 h2 => h1 (by
      have := rows_take (i + 1) h2.2.2.2
      rw [ett, rows_snoc, o1] at this
      exact this.2)
    have hnx : st ∉ (y.table.take i).map Plt.Row.stop → (0 ≤ sk ∧ sk < n) → Plt.rowsOk n [] (y.table.take (i + 1)) := fun h1 h2 => by rw [ett, rows_snoc]; exact ⟨hro, h1, h2⟩
    have hnn : st ∉ (y.table.take i).map Plt.Row.stop → ((y.table.take (i + 1)).map Plt.Row.stop).Nodup := fun h1 => by rw [eme]; exact nodup_snoc hns h1
    generalize (y.table.take i).map Plt.Row.stop = met at hns hne hnx hnn eme ⊢
    by_cases hin : st ∈ met
    · have hne' := hne fun h => h.1 hin
      rw [decide_eq_false hne']
      as_aux_lemma =>
        repeat' (first | ((with_reducible first | apply o_move | apply o_assign | apply o_faddr0 | apply o_not_d | apply o_nilCheck); exact rfl; exact rfl) | ((with_reducible apply gdo_load); first | refine wo_load (h := ?_) | refine wo_loadAll (h := ?_) | refine wo_loadC (h := ?_) | refine wo_ldV (h := ?_) | refine wo_ldF (h := ?_)) | ((with_reducible first | apply o_lss | apply o_gtr | apply o_geq | apply o_extract); exact rfl; exact rfl; exact rfl) | ((with_reducible apply o_pick_t); exact rfl; exact tT_; exact rfl; exact rfl) | ((with_reducible first | apply o_alloc | apply o_makeMap0); exact rfl; intro _) | ((with_reducible apply gdo_store); first | refine wo_store1 (h := ?_) | refine wo_storeA (h := ?_)) | ((with_reducible apply gdo_lookup); refine wo_lookS (h := ?_)) | ((with_reducible apply o_idx); infer_instance; infer_instance; exact rfl; exact rfl; (first | exact rfl | omega); exact rfl; (first | assumption | omega | decide)) | ((with_reducible apply g_skip); exact rfl; exact gG_; exact rfl) | ((with_reducible first | apply c_seq | apply c_block | apply c_region | apply c_nil | apply c_ret | apply c_exit | apply c_skip)) | ((with_reducible apply c_cond_t); exact rfl; exact tT_) | ((with_reducible first | apply e_then | apply e_then_ret | apply e_then_exit | apply e_in | apply e_in_ret | apply e_in_same)))
        all_goals first
          | (exfalso; omega)
          | (apply r_body; apply res1 Try.results29; exact rV_; intro w' hw
             exact ⟨_, _, rfl, ⟨rfl, tk ++ y.src, rfl, hnd, fun h => absurd h hne'⟩, hw.sub (by unfold chk; simp only [List.cons_append, List.nil_append]; exact hS_)⟩)
    · by_cases hrg : 0 ≤ sk ∧ sk < n
      · have h1 := hnx hin hrg
        have h2 := hnn hin
        as_aux_lemma =>
          repeat' (first | ((with_reducible apply c_cond_t); exact rfl; exact decide_eq_true (by omega)) | ((with_reducible apply c_cond_f); exact rfl; exact decide_eq_false (by omega)) | ((with_reducible apply o_pick_f); exact rfl; exact decide_eq_false (by omega); exact rfl; exact rfl) | ((with_reducible apply g_run); exact rfl; exact decide_eq_false (by omega)) | ((with_reducible first | apply o_move | apply o_assign | apply o_faddr0 | apply o_not_d | apply o_nilCheck); exact rfl; exact rfl) | ((with_reducible apply gdo_load); first | refine wo_load (h := ?_) | refine wo_loadAll (h := ?_) | refine wo_loadC (h := ?_) | refine wo_ldV (h := ?_) | refine wo_ldF (h := ?_)) | ((with_reducible first | apply o_lss | apply o_gtr | apply o_geq | apply o_extract); exact rfl; exact rfl; exact rfl) | ((with_reducible apply o_add); exact rfl; exact rfl; exact rfl; (constructor <;> omega)) | ((with_reducible first | apply o_alloc | apply o_makeMap0); exact rfl; intro _) | ((with_reducible apply gdo_store); first | refine wo_store1 (h := ?_) | refine wo_storeA (h := ?_)) | ((with_reducible apply gdo_lookup); refine wo_lookS (h := ?_)) | ((with_reducible apply gdo_mapUpdate); refine wo_mapNewS (h := ?_)) | ((with_reducible apply o_idx); infer_instance; infer_instance; exact rfl; exact rfl; (first | exact rfl | omega); exact rfl; (first | assumption | omega | decide)) | ((with_reducible first | apply c_seq | apply c_block | apply c_region | apply c_nil | apply c_ret | apply c_exit | apply c_skip)) | ((with_reducible first | apply e_then | apply e_then_ret | apply e_then_exit | apply e_in | apply e_in_ret | apply e_in_same)))
          refine l_again (i + 1) ⟨by omega, h2, h1⟩ (by omega) ?_ ?_
          · exact fS_
          · simp only [eme]; exact hS_
      · have hne' := hne fun h => hrg h.2
        rw [decide_eq_false hne']
        as_aux_lemma =>
          repeat' (first | ((with_reducible first | apply o_move | apply o_assign | apply o_faddr0 | apply o_not_d | apply o_nilCheck); exact rfl; exact rfl) | ((with_reducible apply gdo_load); first | refine wo_load (h := ?_) | refine wo_loadAll (h := ?_) | refine wo_loadC (h := ?_) | refine wo_ldV (h := ?_) | refine wo_ldF (h := ?_)) | ((with_reducible first | apply o_lss | apply o_gtr | apply o_geq | apply o_extract); exact rfl; exact rfl; exact rfl) | ((with_reducible apply o_pick_t); exact rfl; exact tT_; exact rfl; exact rfl) | ((with_reducible apply o_pick_f); exact rfl; exact fF_; exact rfl; exact rfl) | ((with_reducible first | apply o_alloc | apply o_makeMap0); exact rfl; intro _) | ((with_reducible apply gdo_store); first | refine wo_store1 (h := ?_) | refine wo_storeA (h := ?_)) | ((with_reducible apply gdo_lookup); refine wo_lookS (h := ?_)) | ((with_reducible apply o_idx); infer_instance; infer_instance; exact rfl; exact rfl; (first | exact rfl | omega); exact rfl; (first | assumption | omega | decide)) | ((with_reducible first | apply g_run); exact rfl; exact gG_) | ((with_reducible apply g_skip); exact rfl; exact gG_; exact rfl) | ((with_reducible first | apply c_seq | apply c_block | apply c_region | apply c_nil | apply c_ret | apply c_exit | apply c_skip)) | ((with_reducible apply c_cond_t); exact rfl; exact tT_) | ((with_reducible first | apply e_then | apply e_then_ret | apply e_then_exit | apply e_in | apply e_in_ret | apply e_in_same)) | ((with_reducible apply g_split_d); exact rfl; intro hcond; rotate_left; intro hcond; rotate_left))
          all_goals first
            | (exfalso; omega)
            | (apply r_body; apply res1 Try.results29; exact rV_; intro w' hw
               exact ⟨_, _, rfl, ⟨rfl, tk ++ y.src, rfl, hnd, fun h => absurd h hne'⟩, hw.sub (by unfold chk; simp only [List.cons_append, List.nil_append]; exact hS_)⟩)
  obtain rfl : i = y.table.length := by omega
  rw [List.take_length] at hro
  have hok : Plt.passOk msl ps tk y := ⟨hh, hso, hlen, by rw [o1]; exact hro⟩
  rw [decide_eq_true hok]
  as_aux_lemma =>
    repeat' (first | ((with_reducible apply c_cond_f); exact rfl; exact decide_eq_false (by omega)) | ((with_reducible first | apply o_move | apply o_assign | apply o_faddr0 | apply o_not_d | apply o_nilCheck); exact rfl; exact rfl) | ((with_reducible first | apply o_lss | apply o_gtr | apply o_geq | apply o_extract); exact rfl; exact rfl; exact rfl) | ((with_reducible first | apply c_seq | apply c_block | apply c_region | apply c_nil | apply c_ret | apply c_exit | apply c_skip)) | ((with_reducible first | apply e_then | apply e_then_ret | apply e_then_exit | apply e_in | apply e_in_ret | apply e_in_same)))
    apply r_body; apply res1 Try.results29; exact rV_; intro w' hw
    exact ⟨_, _, rfl, ⟨rfl, tk ++ y.src, rfl, hnd, fun _ => rfl⟩, hw.sub (by unfold chk; simp only [List.cons_append, List.nil_append]; exact hS_)⟩
end Go.Proofs.Ytkhaemjoekfhiaa
namespace Go.Proofs.Ytkhaemjoekfhiaa
open Go Go.Sx Go.RowKit
attribute [local irreducible] WL WC WQ WR WB WF QB St Exit.then Exit.inBlock Exit.noGoto bodyPost roundPost beginK YR RG BM Calls B AgainD MeetD
/-! ## Valid -/
theorem right_is {id sw ra : Int} {a1 a2 : Option Addr} {n1 c1 n2 c2 : Nat} {m : Plt.Mach} {b : Bool} (hb : decide (Plt.rightM m) = b) (w : World) (h : MachV w ⟨id, sw, ra, (a1, n1, c1), (a2, n2, c2)⟩ m) : Calls Try.prog 27 #[.agg #[.int .i64 id, .int .i64 sw, .int .i64 ra, .slice a1 n1 c1, .slice a2 n2 c2]] w fun e w' => e = .returned (.bool b) ∧ Below w.heap.size w w' := by
  have := right_calls w h; rw [hb] at this; exact this
theorem mslF_keys (ms : List Plt.Mach) : (Plt.mslF ms).map Prod.fst = ms.map Plt.Mach.id := by simp [Plt.mslF, Function.comp_def]
theorem mslF_snoc {ms : List Plt.Mach} {i : Nat} {m : Plt.Mach} (h : ms[i]? = some m) : Plt.mslF (ms.take (i + 1)) = Plt.mslF (ms.take i) ++ [(m.id, (m.caps.length : Int))] := by rw [take_snoc h]; simp [Plt.mslF]
theorem mslF_in {ms : List Plt.Mach} {id : Int} (h : id ∈ ms.map Plt.Mach.id) : ∃ n, asF id (Plt.mslF ms) = some n := by
  cases ho : asF id (Plt.mslF ms) with
  | some n => exact ⟨n, rfl⟩
  | none =>
    obtain ⟨m, hm, e⟩ := List.mem_map.1 h
    exact absurd e (asF_none.1 ho (m.id, (m.caps.length : Int)) (List.mem_map.2 ⟨m, hm, rfl⟩))
theorem mslF_out {ms : List Plt.Mach} {id : Int} (h : id ∉ ms.map Plt.Mach.id) : asF id (Plt.mslF ms) = none := by
  rw [asF_none]
  intro p hp e
  obtain ⟨m, hm, rfl⟩ := List.mem_map.1 hp
  exact h (List.mem_map.2 ⟨m, hm, e⟩)
/-- The passes that were checked, with the stackers of their machines. -/
def psF (msl : List (Int × Int)) (l : List Plt.Pass) : List (Int × Int) := l.map fun y => (y.id, (asF y.mach msl).getD 0)
def tkF (l : List Plt.Pass) : List (Int × Int) := l.flatMap Plt.Pass.src
theorem psF_snoc {msl : List (Int × Int)} {l : List Plt.Pass} {i : Nat} {y : Plt.Pass} (h : l[i]? = some y) : psF msl (l.take (i + 1)) = psF msl (l.take i) ++ [(y.id, (asF y.mach msl).getD 0)] := by rw [take_snoc h]; simp [psF]
theorem tkF_snoc {l : List Plt.Pass} {i : Nat} {y : Plt.Pass} (h : l[i]? = some y) : tkF (l.take (i + 1)) = tkF (l.take i) ++ y.src := by rw [take_snoc h]; simp [tkF]
theorem pass_is {w0 w : World} {L0 : List Ent} {bc bm bp bt : Nat} {msl ps tk : List (Int × Int)} {y : Plt.Pass} {id ma re : Int} {a1 a2 a3 : Option Addr} {n1 c1 n2 c2 n3 c3 : Nat} {bb : Bool} (hb : decide (Plt.passOk msl ps tk y) = bb) (hL0 : ∀ x ∈ L0, x.own = true) (hw : Rep w0 w (chk bc bm bp bt msl ps tk ++ L0)) (hy : PassV w0 ⟨id, ma, re, (a1, n1, c1), (a2, n2, c2), (a3, n3, c3)⟩ y) (hm : (msl.map Prod.fst).Nodup) (hp : (ps.map Prod.fst).Nodup) (ht : tk.Nodup) :
    Calls Try.prog 29 #[ptr bc, .agg #[.int .i64 id, .int .i64 ma, .int .i64 re, .slice a1 n1 c1, .slice a2 n2 c2, .slice a3 n3 c3]] w fun e w' => ∃ r G', e = .returned r ∧ (r = .bool bb ∧ ∃ tk', G' = chk bc bm bp bt msl ps tk' ∧ tk'.Nodup ∧ (Plt.passOk msl ps tk y → tk' = tk ++ y.src)) ∧ Rep w0 w' (G' ++ L0) := by
  have := pass_calls hL0 hw hy hm hp ht; rw [hb] at this; exact this
set_option maxHeartbeats 8000000 in
set_option maxRecDepth 100000 in
theorem valid_calls {q : PlD} {p : Plt.Plant} (w : World) (h : PlV w q p) : Calls Try.prog 12 #[plV q] w fun e w' => e = .returned (.tuple #[.int .i64 (Plt.validF p).1, .int .i64 (Plt.validF p).2]) ∧ Below w.heap.size w w' := by
  obtain ⟨⟨a1, n1, c1⟩, ⟨a2, n2, c2⟩, ⟨a3, n3, c3⟩, ds, ys⟩ := q
  obtain ⟨hM, hI, hP, lm, lp, hmach, hpass⟩ := h
  dsimp only [sdV, plV] at hM hI hP lm lp hmach hpass ⊢
  obtain ⟨_, _, e1, hc1, hop1⟩ := hM.open
  cases e1
  obtain ⟨_, _, e2, hc2, hop2⟩ := hI.open
  cases e2
  obtain ⟨_, _, e3, hc3, hop3⟩ := hP.open
  cases e3
  rw [lm] at hM hop1 hc1 ⊢
  rw [lp] at hP hop3 hc3 ⊢
  by_cases hbig : 20 < p.ms.length ∨ 2000 < p.items.length ∨ 60 < p.passes.length
  · have e : Plt.validF p = (0, 5) := by unfold Plt.validF; rw [if_pos hbig]
    rw [e]
    as_aux_lemma =>
      refine f_enter1 Try.func12 rfl Try.ntmps12 rfl (Rep.start w) ?_
      repeat' (first | ((with_reducible first | apply o_move | apply o_assign | apply o_faddr0 | apply o_not_d); exact rfl; exact rfl) | ((with_reducible apply gdo_load); first | refine wo_load (h := ?_) | refine wo_loadAll (h := ?_) | refine wo_loadC (h := ?_) | refine wo_ldV (h := ?_) | refine wo_ldF (h := ?_)) | ((with_reducible first | apply o_lss | apply o_gtr | apply o_extract); exact rfl; exact rfl; exact rfl) | ((with_reducible apply o_pick_t); exact rfl; exact tT_; exact rfl; exact rfl) | ((with_reducible apply o_pick_f); exact rfl; exact fF_; exact rfl; exact rfl) | ((with_reducible apply o_box); exact rfl; exact rfl; exact rfl; intro _) | ((with_reducible apply o_len); infer_instance; exact rfl; exact rfl) | ((with_reducible first | apply g_run); exact rfl; exact gG_) | ((with_reducible apply g_skip); exact rfl; exact gG_; exact rfl) | ((with_reducible first | apply c_seq | apply c_block | apply c_region | apply c_nil | apply c_ret | apply c_exit | apply c_skip)) | ((with_reducible apply c_cond_t); exact rfl; exact tT_) | ((with_reducible first | apply e_then | apply e_then_ret | apply e_then_exit | apply e_in | apply e_in_ret | apply e_in_same)) | ((with_reducible apply g_split_d); exact rfl; intro hcond; rotate_left; intro hcond; rotate_left))
      all_goals first
        | (exfalso; omega)
        | (apply r_body; apply res2 Try.results12; exact rV_; exact rV_; intro w' hw; exact ⟨rfl, hw.below (by simp)⟩)
  have em : ∀ i, Plt.machsBad [] 0 p.ms = some i → Plt.validF p = (i, 310) := fun i h => by unfold Plt.validF; rw [if_neg hbig, h]
  have ei : Plt.machsBad [] 0 p.ms = none → ∀ i, Plt.itemsBad [] 0 p.items = some i → Plt.validF p = (i, 311) := fun h0 i h => by unfold Plt.validF; rw [if_neg hbig, h0]; dsimp only; rw [h]
  have ep : Plt.machsBad [] 0 p.ms = none → Plt.itemsBad [] 0 p.items = none → ∀ i, Plt.passesBad (Plt.mslF p.ms) [] [] 0 p.passes = some i → Plt.validF p = (i, 312) := fun h0 h1 i h => by unfold Plt.validF; rw [if_neg hbig, h0]; dsimp only; rw [h1]; dsimp only; rw [h]
  have eo : Plt.machsBad [] 0 p.ms = none → Plt.itemsBad [] 0 p.items = none → Plt.passesBad (Plt.mslF p.ms) [] [] 0 p.passes = none → Plt.validF p = (0, 0) := fun h0 h1 h => by unfold Plt.validF; rw [if_neg hbig, h0]; dsimp only; rw [h1]; dsimp only; rw [h]
  generalize Plt.validF p = vf at em ei ep eo ⊢
  refine f_enter1 Try.func12 rfl Try.ntmps12 rfl (Rep.start w) ?_
  repeat' (first | ((with_reducible apply c_cond_f); exact rfl; exact decide_eq_false (by omega)) | ((with_reducible apply o_pick_f); exact rfl; exact decide_eq_false (by omega); exact rfl; exact rfl) | ((with_reducible apply g_run); exact rfl; exact decide_eq_false (by omega)) | ((with_reducible first | apply o_move | apply o_assign | apply o_faddr0 | apply o_not_d); exact rfl; exact rfl) | ((with_reducible apply gdo_load); first | refine wo_load (h := ?_) | refine wo_loadAll (h := ?_) | refine wo_loadC (h := ?_) | refine wo_ldV (h := ?_) | refine wo_ldF (h := ?_)) | ((with_reducible first | apply o_lss | apply o_gtr | apply o_extract); exact rfl; exact rfl; exact rfl) | ((with_reducible first | apply o_alloc | apply o_makeMap0); exact rfl; intro _) | ((with_reducible apply o_box); exact rfl; exact rfl; exact rfl; intro _) | ((with_reducible apply gdo_store); first | refine wo_store1 (h := ?_) | refine wo_storeA (h := ?_)) | ((with_reducible apply gdo_build); first | refine wo_build (h := ?_)) | ((with_reducible apply o_len); infer_instance; exact rfl; exact rfl) | ((with_reducible first | apply c_seq | apply c_block | apply c_region | apply c_nil | apply c_ret | apply c_exit | apply c_skip)) | ((with_reducible first | apply e_then | apply e_then_ret | apply e_then_exit | apply e_in | apply e_in_ret | apply e_in_same)))
  rename_i b1 bm bp bt bc
  apply c_loop (σ := Nat) (Fs := fun i => [(37, .int .i64 i), (36, .int .i64 p.ms.length), (35, .slice a1 p.ms.length c1), (4, ptr bc), (1, ptr b1)])
    (Ls := fun i => ⟨bc, Ce [.map (some bm), .map (some bp), .map (some bt)] 100, true⟩ :: ⟨bm, MO (MM kI kI (Plt.mslF (p.ms.take i))), true⟩ :: ⟨bp, MO (MM kI kI []), true⟩ :: ⟨bt, MO (MM kP vB (TS [])), true⟩ :: ⟨b1, Ce [.slice a1 p.ms.length c1, .slice a2 p.items.length c2, .slice a3 p.passes.length c3] 29, true⟩ :: [])
    (I := fun i => i ≤ p.ms.length ∧ ((p.ms.take i).map Plt.Mach.id).Nodup ∧ Plt.machsBad [] 0 p.ms = Plt.machsBad ((p.ms.take i).map Plt.Mach.id) i (p.ms.drop i)) (μ := fun i => p.ms.length - i) (s0 := 0)
  · exact ⟨Nat.zero_le _, by simp, by simp⟩
  · exact fS_
  · exact hS_
  rintro i ⟨hi, hnd, hw0⟩
  by_cases hlt : i < p.ms.length
  · obtain ⟨d, hd⟩ : ∃ d, ds[i]? = some d := ⟨_, List.getElem?_eq_getElem (by omega)⟩
    obtain ⟨m, hx⟩ : ∃ m, p.ms[i]? = some m := ⟨_, List.getElem?_eq_getElem hlt⟩
    have hmv := hmach i d m hd hx
    obtain ⟨b, off, cc, e, fz, rfl, hk, hpt⟩ := hop1 (by omega)
    obtain ⟨id, sw, ra, ⟨x1, k1, z1⟩, ⟨x2, k2, z2⟩⟩ := d
    have g1 : ∀ j u, ([.int .i64 id, .int .i64 sw, .int .i64 ra, .slice x1 k1 z1, .slice x2 k2 z2] : List Value)[j]? = some u → cc[off + i * 5 + j]? = some u := hpt.get hd
    have hk1 : k1 = m.caps.length := by
      obtain ⟨_, _, e, _, _⟩ := hmv.caps.open
      simp only [sdV] at e
      cases e; rfl
    have hid := hmv.id
    dsimp only at hid
    rw [drop_at hx, Plt.machsBad] at hw0
    have esn := mslF_snoc hx
    have eme : (p.ms.take (i + 1)).map Plt.Mach.id = (p.ms.take i).map Plt.Mach.id ++ [id] := by rw [take_snoc hx, hid]; simp
    have hkeys := mslF_keys (p.ms.take i)
    have hkn : ((Plt.mslF (p.ms.take i)).map Prod.fst).Nodup := by rw [hkeys]; exact hnd
    subst hk1
    by_cases hin : id ∈ (p.ms.take i).map Plt.Mach.id
    · rw [if_neg (fun h => h.1 (hid ▸ hin))] at hw0
      rw [em i hw0]
      obtain ⟨n, ho⟩ := mslF_in hin
      as_aux_lemma =>
        repeat' (first | ((with_reducible apply c_cond_t); exact rfl; exact decide_eq_true (by omega)) | ((with_reducible apply o_lookMT_in (κ := kI) (ν := kI) (k := id)); infer_instance; infer_instance; exact rfl; exact rfl; exact kN_; assumption; assumption; exact rfl) | ((with_reducible first | apply o_move | apply o_assign | apply o_faddr0 | apply o_not_d); exact rfl; exact rfl) | ((with_reducible apply gdo_load); first | refine wo_load (h := ?_) | refine wo_loadAll (h := ?_) | refine wo_loadC (h := ?_) | refine wo_ldV (h := ?_) | refine wo_ldF (h := ?_)) | ((with_reducible first | apply o_lss | apply o_gtr | apply o_extract); exact rfl; exact rfl; exact rfl) | ((with_reducible apply o_pick_t); exact rfl; exact tT_; exact rfl; exact rfl) | ((with_reducible first | apply o_alloc | apply o_makeMap0); exact rfl; intro _) | ((with_reducible apply gdo_store); first | refine wo_store1 (h := ?_) | refine wo_storeA (h := ?_)) | ((with_reducible apply o_idx); infer_instance; infer_instance; exact rfl; exact rfl; (first | exact rfl | omega); exact rfl; (first | assumption | omega | decide)) | ((with_reducible apply g_skip); exact rfl; exact gG_; exact rfl) | ((with_reducible first | apply c_seq | apply c_block | apply c_region | apply c_nil | apply c_ret | apply c_exit | apply c_skip)) | ((with_reducible apply c_cond_t); exact rfl; exact tT_) | ((with_reducible first | apply e_then | apply e_then_ret | apply e_then_exit | apply e_in | apply e_in_ret | apply e_in_same)))
        apply r_body; apply res2 Try.results12; exact rV_; exact rV_; intro w' hw
        exact ⟨rfl, hw.below (by simp)⟩
    have ho := mslF_out hin
    cases hrm : decide (Plt.rightM m) with
    | false =>
      rw [if_neg (fun h => of_decide_eq_false hrm h.2)] at hw0
      rw [em i hw0]
      as_aux_lemma =>
        repeat' (first | ((with_reducible apply c_cond_t); exact rfl; exact decide_eq_true (by omega)) | ((with_reducible apply o_lookMT_out (κ := kI) (ν := kI) (k := id)); infer_instance; infer_instance; infer_instance; exact rfl; exact rfl; exact kN_; assumption; exact rfl) | ((first | ((with_reducible apply o_call_pure (f := 27)); exact rfl) | ((with_reducible apply q_call_pure (f := 27)); exact rfl; kernel_rfl; exact rfl; exact sJ_)); exact eV_; exact (fun w hw => right_is hrm w (hmv.keep hw (by exact aO_)))) | ((with_reducible first | apply o_move | apply o_assign | apply o_faddr0 | apply o_not_d); exact rfl; exact rfl) | ((with_reducible apply gdo_load); first | refine wo_load (h := ?_) | refine wo_loadAll (h := ?_) | refine wo_loadC (h := ?_) | refine wo_ldV (h := ?_) | refine wo_ldF (h := ?_)) | ((with_reducible first | apply o_lss | apply o_gtr | apply o_extract); exact rfl; exact rfl; exact rfl) | ((with_reducible apply o_not); exact rfl; exact rfl) | ((with_reducible apply o_pick_f); exact rfl; exact fF_; exact rfl; exact rfl) | ((with_reducible first | apply o_alloc | apply o_makeMap0); exact rfl; intro _) | ((with_reducible apply gdo_store); first | refine wo_store1 (h := ?_) | refine wo_storeA (h := ?_)) | ((with_reducible apply o_idx); infer_instance; infer_instance; exact rfl; exact rfl; (first | exact rfl | omega); exact rfl; (first | assumption | omega | decide)) | ((with_reducible first | apply g_run); exact rfl; exact gG_) | ((with_reducible first | apply c_seq | apply c_block | apply c_region | apply c_nil | apply c_ret | apply c_exit | apply c_skip)) | ((with_reducible apply c_cond_t); exact rfl; exact tT_) | ((with_reducible first | apply e_then | apply e_then_ret | apply e_then_exit | apply e_in | apply e_in_ret | apply e_in_same)))
        apply r_body; apply res2 Try.results12; exact rV_; exact rV_; intro w' hw
        exact ⟨rfl, hw.below (by simp)⟩
    | true =>
      rw [if_pos ⟨hid ▸ hin, of_decide_eq_true hrm⟩, ← hid] at hw0
      have hput : putF id (m.caps.length : Int) (Plt.mslF (p.ms.take i)) = Plt.mslF (p.ms.take (i + 1)) := by rw [putF_new ho, esn, hid]
      have hnx : ((p.ms.take (i + 1)).map Plt.Mach.id).Nodup := by rw [eme]; exact nodup_snoc hnd hin
      as_aux_lemma =>
        repeat' (first | ((with_reducible apply c_cond_t); exact rfl; exact decide_eq_true (by omega)) | ((with_reducible apply o_lookMT_out (κ := kI) (ν := kI) (k := id)); infer_instance; infer_instance; infer_instance; exact rfl; exact rfl; exact kN_; assumption; exact rfl) | ((first | ((with_reducible apply o_call_pure (f := 27)); exact rfl) | ((with_reducible apply q_call_pure (f := 27)); exact rfl; kernel_rfl; exact rfl; exact sJ_)); exact eV_; exact (fun w hw => right_is hrm w (hmv.keep hw (by exact aO_)))) | ((with_reducible apply o_mapPut (κ := kI) (ν := kI) (k := id) (v := (m.caps.length : Int))); infer_instance; infer_instance; exact rfl; exact rfl; exact rfl; exact aT_; assumption; exact uP_) | ((with_reducible first | apply o_move | apply o_assign | apply o_faddr0 | apply o_not_d); exact rfl; exact rfl) | ((with_reducible apply gdo_load); first | refine wo_load (h := ?_) | refine wo_loadAll (h := ?_) | refine wo_loadC (h := ?_) | refine wo_ldV (h := ?_) | refine wo_ldF (h := ?_)) | ((with_reducible first | apply o_lss | apply o_gtr | apply o_extract); exact rfl; exact rfl; exact rfl) | ((with_reducible apply o_not); exact rfl; exact rfl) | ((with_reducible apply o_add); exact rfl; exact rfl; exact rfl; (constructor <;> omega)) | ((with_reducible apply o_pick_f); exact rfl; exact fF_; exact rfl; exact rfl) | ((with_reducible first | apply o_alloc | apply o_makeMap0); exact rfl; intro _) | ((with_reducible apply gdo_store); first | refine wo_store1 (h := ?_) | refine wo_storeA (h := ?_)) | ((with_reducible apply o_len); infer_instance; exact rfl; exact rfl) | ((with_reducible apply o_idx); infer_instance; infer_instance; exact rfl; exact rfl; (first | exact rfl | omega); exact rfl; (first | assumption | omega | decide)) | ((with_reducible first | apply g_run); exact rfl; exact gG_) | ((with_reducible first | apply c_seq | apply c_block | apply c_region | apply c_nil | apply c_ret | apply c_exit | apply c_skip)) | ((with_reducible apply c_cond_f); exact rfl; exact fF_) | ((with_reducible first | apply e_then | apply e_then_ret | apply e_then_exit | apply e_in | apply e_in_ret | apply e_in_same)))
        refine l_again (i + 1) ⟨by omega, hnx, by rw [eme]; exact hw0⟩ (by omega) ?_ ?_
        · exact fS_
        · (try dsimp only); rw [← hput]; exact hS_
  obtain rfl : i = p.ms.length := by omega
  rw [List.drop_length, Plt.machsBad] at hw0
  rw [List.take_length] at hnd ⊢
  have hmk : ((Plt.mslF p.ms).map Prod.fst).Nodup := by rw [mslF_keys]; exact hnd
  generalize Plt.mslF p.ms = msl at hmk ep eo ⊢
  clear em hop1 hmach
  have ei := ei hw0
  have ep := ep hw0
  have eo := eo hw0
  clear hw0
  repeat' (first | ((with_reducible apply c_cond_f); exact rfl; exact decide_eq_false (by omega)) | ((with_reducible first | apply o_move | apply o_assign | apply o_faddr0 | apply o_not_d); exact rfl; exact rfl) | ((with_reducible apply gdo_load); first | refine wo_load (h := ?_) | refine wo_loadAll (h := ?_) | refine wo_loadC (h := ?_) | refine wo_ldV (h := ?_) | refine wo_ldF (h := ?_)) | ((with_reducible first | apply o_lss | apply o_gtr | apply o_extract); exact rfl; exact rfl; exact rfl) | ((with_reducible apply o_len); infer_instance; exact rfl; exact rfl) | ((with_reducible apply o_makeMap); infer_instance; exact rfl; exact rfl; intro _) | ((with_reducible first | apply c_seq | apply c_block | apply c_region | apply c_nil | apply c_ret | apply c_exit | apply c_skip)) | ((with_reducible first | apply e_then | apply e_then_ret | apply e_then_exit | apply e_in | apply e_in_ret | apply e_in_same)))
  rename_i bs
  apply c_loop (σ := Nat) (Fs := fun i => [(72, .int .i64 i), (71, .int .i64 p.items.length), (70, .slice a2 p.items.length c2), (9, .map (some bs)), (4, ptr bc), (1, ptr b1)])
    (Ls := fun i => ⟨bs, MO (setM .i64 ((p.items.take i).map Plt.Item.id)), true⟩ :: ⟨bc, Ce [.map (some bm), .map (some bp), .map (some bt)] 100, true⟩ :: ⟨bm, MO (MM kI kI msl), true⟩ :: ⟨bp, MO (MM kI kI []), true⟩ :: ⟨bt, MO (MM kP vB (TS [])), true⟩ :: ⟨b1, Ce [.slice a1 p.ms.length c1, .slice a2 p.items.length c2, .slice a3 p.passes.length c3] 29, true⟩ :: [])
    (I := fun i => i ≤ p.items.length ∧ ((p.items.take i).map Plt.Item.id).Nodup ∧ Plt.itemsBad [] 0 p.items = Plt.itemsBad ((p.items.take i).map Plt.Item.id) i (p.items.drop i)) (μ := fun i => p.items.length - i) (s0 := 0)
  · exact ⟨Nat.zero_le _, by simp, by simp⟩
  · exact fS_
  · exact hS_
  rintro i ⟨hi, hns, hw0⟩
  by_cases hlt : i < p.items.length
  · obtain ⟨⟨id, st, ba⟩, hx⟩ : ∃ s, p.items[i]? = some s := ⟨_, List.getElem?_eq_getElem hlt⟩
    obtain ⟨b, off, cc, e, fz, rfl, hk, hpt⟩ := hop2 (by omega)
    have g1 : ∀ j u, ([.int .i64 id, .int .i64 st, .int .i64 ba] : List Value)[j]? = some u → cc[off + i * 3 + j]? = some u := hpt.get hx
    have eme : (p.items.take (i + 1)).map Plt.Item.id = (p.items.take i).map Plt.Item.id ++ [id] := by rw [take_snoc hx]; simp
    rw [drop_at hx, Plt.itemsBad] at hw0
    generalize (p.items.take i).map Plt.Item.id = met at hns hw0 eme ⊢
    by_cases hok : Plt.Item.ok ⟨id, st, ba⟩ ∧ id ∉ met
    · rw [if_pos hok] at hw0
      obtain ⟨hok, hin⟩ := hok
      unfold Plt.Item.ok Plt.idOk at hok
      dsimp only at hok
      have hnx : ((p.items.take (i + 1)).map Plt.Item.id).Nodup := by rw [eme]; exact nodup_snoc hns hin
      as_aux_lemma =>
        repeat' (first | ((with_reducible apply c_cond_t); exact rfl; exact decide_eq_true (by omega)) | ((with_reducible apply c_cond_f); exact rfl; exact decide_eq_false (by omega)) | ((with_reducible apply o_pick_f); exact rfl; exact decide_eq_false (by omega); exact rfl; exact rfl) | ((with_reducible apply g_run); exact rfl; exact decide_eq_false (by omega)) | ((first | ((with_reducible apply o_call_pure (f := 28)); exact rfl) | ((with_reducible apply q_call_pure (f := 28)); exact rfl; kernel_rfl; exact rfl; exact sJ_)); exact eV_; exact (fun w hw => id_calls id w)) | ((with_reducible first | apply o_move | apply o_assign | apply o_faddr0 | apply o_not_d); exact rfl; exact rfl) | ((with_reducible apply gdo_load); first | refine wo_load (h := ?_) | refine wo_loadAll (h := ?_) | refine wo_loadC (h := ?_) | refine wo_ldV (h := ?_) | refine wo_ldF (h := ?_)) | ((with_reducible first | apply o_lss | apply o_gtr | apply o_extract); exact rfl; exact rfl; exact rfl) | ((with_reducible apply o_add); exact rfl; exact rfl; exact rfl; (constructor <;> omega)) | ((with_reducible first | apply o_alloc | apply o_makeMap0); exact rfl; intro _) | ((with_reducible apply gdo_store); first | refine wo_store1 (h := ?_) | refine wo_storeA (h := ?_)) | ((with_reducible apply gdo_lookup); refine wo_lookS (h := ?_)) | ((with_reducible apply gdo_mapUpdate); refine wo_mapNewS (h := ?_)) | ((with_reducible apply o_idx); infer_instance; infer_instance; exact rfl; exact rfl; (first | exact rfl | omega); exact rfl; (first | assumption | omega | decide)) | ((with_reducible first | apply c_seq | apply c_block | apply c_region | apply c_nil | apply c_ret | apply c_exit | apply c_skip)) | ((with_reducible first | apply e_then | apply e_then_ret | apply e_then_exit | apply e_in | apply e_in_ret | apply e_in_same)))
        refine l_again (i + 1) ⟨by omega, hnx, by rw [eme]; exact hw0⟩ (by omega) ?_ ?_
        · exact fS_
        · simp only [eme]; exact hS_
    · rw [if_neg hok] at hw0
      rw [ei i hw0]
      unfold Plt.Item.ok Plt.idOk at hok
      dsimp only at hok
      by_cases hin : id ∈ met
      · as_aux_lemma =>
          repeat' (first | ((first | ((with_reducible apply o_call_pure (f := 28)); exact rfl) | ((with_reducible apply q_call_pure (f := 28)); exact rfl; kernel_rfl; exact rfl; exact sJ_)); exact eV_; exact (fun w hw => id_calls id w)) | ((with_reducible first | apply o_move | apply o_assign | apply o_faddr0 | apply o_not_d); exact rfl; exact rfl) | ((with_reducible apply gdo_load); first | refine wo_load (h := ?_) | refine wo_loadAll (h := ?_) | refine wo_loadC (h := ?_) | refine wo_ldV (h := ?_) | refine wo_ldF (h := ?_)) | ((with_reducible first | apply o_lss | apply o_gtr | apply o_extract); exact rfl; exact rfl; exact rfl) | ((with_reducible apply o_pick_t); exact rfl; exact tT_; exact rfl; exact rfl) | ((with_reducible apply o_pick_f); exact rfl; exact fF_; exact rfl; exact rfl) | ((with_reducible first | apply o_alloc | apply o_makeMap0); exact rfl; intro _) | ((with_reducible apply gdo_store); first | refine wo_store1 (h := ?_) | refine wo_storeA (h := ?_)) | ((with_reducible apply gdo_lookup); refine wo_lookS (h := ?_)) | ((with_reducible apply o_idx); infer_instance; infer_instance; exact rfl; exact rfl; (first | exact rfl | omega); exact rfl; (first | assumption | omega | decide)) | ((with_reducible first | apply g_run); exact rfl; exact gG_) | ((with_reducible apply g_skip); exact rfl; exact gG_; exact rfl) | ((with_reducible first | apply c_seq | apply c_block | apply c_region | apply c_nil | apply c_ret | apply c_exit | apply c_skip)) | ((with_reducible apply c_cond_t); exact rfl; exact tT_) | ((with_reducible first | apply e_then | apply e_then_ret | apply e_then_exit | apply e_in | apply e_in_ret | apply e_in_same)) | ((with_reducible apply g_split_d); exact rfl; intro hcond; rotate_left; intro hcond; rotate_left))
          all_goals first
            | (exfalso; omega)
            | (apply r_body; apply res2 Try.results12; exact rV_; exact rV_; intro w' hw; exact ⟨rfl, hw.below (by simp)⟩)
      · have hok' : ¬ ((1 ≤ id ∧ id ≤ 999999) ∧ 1 ≤ ba ∧ ba ≤ 100) := fun h => hok ⟨h, hin⟩
        as_aux_lemma =>
          repeat' (first | ((first | ((with_reducible apply o_call_pure (f := 28)); exact rfl) | ((with_reducible apply q_call_pure (f := 28)); exact rfl; kernel_rfl; exact rfl; exact sJ_)); exact eV_; exact (fun w hw => id_calls id w)) | ((with_reducible first | apply o_move | apply o_assign | apply o_faddr0 | apply o_not_d); exact rfl; exact rfl) | ((with_reducible apply gdo_load); first | refine wo_load (h := ?_) | refine wo_loadAll (h := ?_) | refine wo_loadC (h := ?_) | refine wo_ldV (h := ?_) | refine wo_ldF (h := ?_)) | ((with_reducible first | apply o_lss | apply o_gtr | apply o_extract); exact rfl; exact rfl; exact rfl) | ((with_reducible apply o_pick_t); exact rfl; exact tT_; exact rfl; exact rfl) | ((with_reducible apply o_pick_f); exact rfl; exact fF_; exact rfl; exact rfl) | ((with_reducible first | apply o_alloc | apply o_makeMap0); exact rfl; intro _) | ((with_reducible apply gdo_store); first | refine wo_store1 (h := ?_) | refine wo_storeA (h := ?_)) | ((with_reducible apply gdo_lookup); refine wo_lookS (h := ?_)) | ((with_reducible apply o_idx); infer_instance; infer_instance; exact rfl; exact rfl; (first | exact rfl | omega); exact rfl; (first | assumption | omega | decide)) | ((with_reducible first | apply g_run); exact rfl; exact gG_) | ((with_reducible apply g_skip); exact rfl; exact gG_; exact rfl) | ((with_reducible first | apply c_seq | apply c_block | apply c_region | apply c_nil | apply c_ret | apply c_exit | apply c_skip)) | ((with_reducible apply c_cond_t); exact rfl; exact tT_) | ((with_reducible first | apply e_then | apply e_then_ret | apply e_then_exit | apply e_in | apply e_in_ret | apply e_in_same)) | ((with_reducible apply g_split_d); exact rfl; intro hcond; rotate_left; intro hcond; rotate_left))
          all_goals first
            | (exfalso; omega)
            | (apply r_body; apply res2 Try.results12; exact rV_; exact rV_; intro w' hw; exact ⟨rfl, hw.below (by simp)⟩)
  obtain rfl : i = p.items.length := by omega
  rw [List.drop_length, Plt.itemsBad] at hw0
  have ep := ep hw0
  have eo := eo hw0
  clear hw0 ei hop2
  repeat' (first | ((with_reducible apply c_cond_f); exact rfl; exact decide_eq_false (by omega)) | ((with_reducible first | apply o_move | apply o_assign | apply o_faddr0 | apply o_not_d); exact rfl; exact rfl) | ((with_reducible apply gdo_load); first | refine wo_load (h := ?_) | refine wo_loadAll (h := ?_) | refine wo_loadC (h := ?_) | refine wo_ldV (h := ?_) | refine wo_ldF (h := ?_)) | ((with_reducible first | apply o_lss | apply o_gtr | apply o_extract); exact rfl; exact rfl; exact rfl) | ((with_reducible apply o_len); infer_instance; exact rfl; exact rfl) | ((with_reducible first | apply c_seq | apply c_block | apply c_region | apply c_nil | apply c_ret | apply c_exit | apply c_skip)) | ((with_reducible first | apply e_then | apply e_then_ret | apply e_then_exit | apply e_in | apply e_in_ret | apply e_in_same)))
  apply c_loop (σ := Nat) (Fs := fun i => [(105, .int .i64 i), (104, .int .i64 p.passes.length), (103, .slice a3 p.passes.length c3), (4, ptr bc), (1, ptr b1)])
    (Ls := fun i => chk bc bm bp bt msl (psF msl (p.passes.take i)) (tkF (p.passes.take i)) ++ (⟨b1, Ce [.slice a1 p.ms.length c1, .slice a2 p.items.length c2, .slice a3 p.passes.length c3] 29, true⟩ :: []))
    (I := fun i => (i ≤ p.passes.length ∧ ((psF msl (p.passes.take i)).map Prod.fst).Nodup ∧ (tkF (p.passes.take i)).Nodup) ∧ Plt.passesBad msl [] [] 0 p.passes = Plt.passesBad msl (psF msl (p.passes.take i)) (tkF (p.passes.take i)) i (p.passes.drop i)) (μ := fun i => p.passes.length - i) (s0 := 0)
  · exact ⟨⟨Nat.zero_le _, by simp [psF], by simp [tkF]⟩, by simp [psF, tkF]⟩
  · exact fS_
  · simp only [List.take_zero, psF, tkF, List.map_nil, List.flatMap_nil]; unfold chk; simp only [List.cons_append, List.nil_append]; exact hS_
  rintro i ⟨⟨hi, hpn, htn⟩, hw0⟩
  by_cases hlt : i < p.passes.length
  · obtain ⟨d, hd⟩ : ∃ d, ys[i]? = some d := ⟨_, List.getElem?_eq_getElem (by omega)⟩
    obtain ⟨y, hx⟩ : ∃ y, p.passes[i]? = some y := ⟨_, List.getElem?_eq_getElem hlt⟩
    have hpv := hpass i d y hd hx
    obtain ⟨b, off, cc, e, fz, rfl, hk, hpt⟩ := hop3 (by omega)
    obtain ⟨id, ma, re, ⟨x1, k1, z1⟩, ⟨x2, k2, z2⟩, ⟨x3, k3, z3⟩⟩ := d
    have g1 : ∀ j u, ([.int .i64 id, .int .i64 ma, .int .i64 re, .slice x1 k1 z1, .slice x2 k2 z2, .slice x3 k3 z3] : List Value)[j]? = some u → cc[off + i * 6 + j]? = some u := hpt.get hd
    obtain ⟨e1, e2⟩ : id = y.id ∧ ma = y.mach := ⟨hpv.id, hpv.mach⟩
    rw [drop_at hx, Plt.passesBad] at hw0
    have esn := psF_snoc (msl := msl) hx
    have ets := tkF_snoc hx
    subst e1 e2
    generalize hpsi : psF msl (p.passes.take i) = ps at hpn hw0 esn ⊢
    generalize htki : tkF (p.passes.take i) = tk at htn hw0 ets ⊢
    have oC : ∀ x ∈ chk bc bm bp bt msl ps tk, x.own = true := chk_own
    cases hbb : decide (Plt.passOk msl ps tk y) with
    | true =>
      have hok := of_decide_eq_true hbb
      rw [if_pos hok] at hw0
      obtain ⟨n, ho⟩ := Option.isSome_iff_exists.1 hok.1.1.2
      have hnone := hok.1.1.1
      rw [ho, Option.getD_some] at hw0 esn
      have hput : putF y.id n ps = psF msl (p.passes.take (i + 1)) := by rw [putF_new hnone, esn]
      have hpn' : ((psF msl (p.passes.take (i + 1))).map Prod.fst).Nodup := by rw [← hput]; exact putF_nodup hpn
      as_aux_lemma =>
        repeat' (first | ((with_reducible apply c_cond_t); exact rfl; exact decide_eq_true (by omega)) | ((with_reducible apply o_lookM_in (κ := kI) (ν := kI) (k := y.mach) (v := n)); infer_instance; infer_instance; exact rfl; exact rfl; exact kN_; assumption; assumption; exact rfl) | ((with_reducible apply o_mapPut (κ := kI) (ν := kI) (k := y.id) (v := n)); infer_instance; infer_instance; exact rfl; exact rfl; exact rfl; exact aT_; assumption; exact uP_) | ((with_reducible apply o_call_frame (f := 29) (G := chk bc bm bp bt msl ps tk) (Φ := fun v G' => v = .bool true ∧ ∃ tk', G' = chk bc bm bp bt msl ps tk' ∧ tk'.Nodup ∧ (Plt.passOk msl ps tk y → tk' = tk ++ y.src))); exact rfl; exact rfl; exact eV_; exact rL_; (exact fun w hw => by rw [Array.append_empty]; exact pass_is hbb (show AO _ by exact aO_) hw hpv hmk hpn htn); rintro v G' ⟨rfl, tk', rfl, htn', hok'⟩; (have e_ := hok' hok; subst e_); unfold chk; simp only [List.cons_append, List.nil_append]) | ((with_reducible first | apply o_move | apply o_assign | apply o_faddr0 | apply o_not_d); exact rfl; exact rfl) | ((with_reducible apply gdo_load); first | refine wo_load (h := ?_) | refine wo_loadAll (h := ?_) | refine wo_loadC (h := ?_) | refine wo_ldV (h := ?_) | refine wo_ldF (h := ?_)) | ((with_reducible first | apply o_lss | apply o_gtr | apply o_extract); exact rfl; exact rfl; exact rfl) | ((with_reducible apply o_not); exact rfl; exact rfl) | ((with_reducible apply o_add); exact rfl; exact rfl; exact rfl; (constructor <;> omega)) | ((with_reducible first | apply o_alloc | apply o_makeMap0); exact rfl; intro _) | ((with_reducible apply gdo_store); first | refine wo_store1 (h := ?_) | refine wo_storeA (h := ?_)) | ((with_reducible apply o_idx); infer_instance; infer_instance; exact rfl; exact rfl; (first | exact rfl | omega); exact rfl; (first | assumption | omega | decide)) | ((with_reducible first | apply c_seq | apply c_block | apply c_region | apply c_nil | apply c_ret | apply c_exit | apply c_skip)) | ((with_reducible apply c_cond_f); exact rfl; exact fF_) | ((with_reducible first | apply e_then | apply e_then_ret | apply e_then_exit | apply e_in | apply e_in_ret | apply e_in_same)))
        refine l_again (i + 1) ⟨⟨by omega, hpn', by rw [ets]; exact htn'⟩, by rw [esn, ets]; exact hw0⟩ (by omega) ?_ ?_
        · exact fS_
        · (try dsimp only); rw [← hput, ets]; (try unfold chk); (try simp only [List.cons_append, List.nil_append]); exact hS_
    | false =>
      have hok := of_decide_eq_false hbb
      rw [if_neg hok] at hw0
      rw [ep i hw0]
      as_aux_lemma =>
        repeat' (first | ((with_reducible apply c_cond_t); exact rfl; exact decide_eq_true (by omega)) | ((with_reducible apply o_call_frame (f := 29) (G := chk bc bm bp bt msl ps tk) (Φ := fun v G' => v = .bool false ∧ ∃ tk', G' = chk bc bm bp bt msl ps tk' ∧ tk'.Nodup ∧ (Plt.passOk msl ps tk y → tk' = tk ++ y.src))); exact rfl; exact rfl; exact eV_; exact rL_; (exact fun w hw => by rw [Array.append_empty]; exact pass_is hbb (show AO _ by exact aO_) hw hpv hmk hpn htn); rintro v G' ⟨rfl, tk', rfl, htn', hok'⟩; have oC2 := chk_own (bc := bc) (bm := bm) (bp := bp) (bt := bt) (msl := msl) (ps := ps) (tk := tk')) | ((with_reducible first | apply o_move | apply o_assign | apply o_faddr0 | apply o_not_d); exact rfl; exact rfl) | ((with_reducible apply gdo_load); first | refine wo_load (h := ?_) | refine wo_loadAll (h := ?_) | refine wo_loadC (h := ?_) | refine wo_ldV (h := ?_) | refine wo_ldF (h := ?_)) | ((with_reducible first | apply o_lss | apply o_gtr | apply o_extract); exact rfl; exact rfl; exact rfl) | ((with_reducible apply o_not); exact rfl; exact rfl) | ((with_reducible first | apply o_alloc | apply o_makeMap0); exact rfl; intro _) | ((with_reducible apply gdo_store); first | refine wo_store1 (h := ?_) | refine wo_storeA (h := ?_)) | ((with_reducible apply o_idx); infer_instance; infer_instance; exact rfl; exact rfl; (first | exact rfl | omega); exact rfl; (first | assumption | omega | decide)) | ((with_reducible first | apply c_seq | apply c_block | apply c_region | apply c_nil | apply c_ret | apply c_exit | apply c_skip)) | ((with_reducible first | apply e_then | apply e_then_ret | apply e_then_exit | apply e_in | apply e_in_ret | apply e_in_same)))
        apply r_body; apply res2 Try.results12; exact rV_; exact rV_; intro w' hw
        exact ⟨rfl, hw.below (show AO _ from by exact aO_)⟩
  obtain rfl : i = p.passes.length := by omega
  rw [List.drop_length, Plt.passesBad] at hw0
  rw [eo hw0]
  have oC' : ∀ x ∈ chk bc bm bp bt msl (psF msl (p.passes.take p.passes.length)) (tkF (p.passes.take p.passes.length)), x.own = true := chk_own
  as_aux_lemma =>
    repeat' (first | ((with_reducible apply c_cond_f); exact rfl; exact decide_eq_false (by omega)) | ((with_reducible first | apply o_move | apply o_assign | apply o_faddr0 | apply o_not_d); exact rfl; exact rfl) | ((with_reducible first | apply o_lss | apply o_gtr | apply o_extract); exact rfl; exact rfl; exact rfl) | ((with_reducible first | apply c_seq | apply c_block | apply c_region | apply c_nil | apply c_ret | apply c_exit | apply c_skip)) | ((with_reducible first | apply e_then | apply e_then_ret | apply e_then_exit | apply e_in | apply e_in_ret | apply e_in_same)))
    apply r_body; apply res2 Try.results12; exact rV_; exact rV_; intro w' hw
    exact ⟨rfl, hw.below (show AO _ from by exact aO_)⟩
theorem valid_is {q : PlD} {p : Plt.Plant} {i : Nat} {k : Int} (he : Plt.validF p = (i, k)) (w : World) (h : PlV w q p) : Calls Try.prog 12 #[plV q] w fun e w' => e = .returned (.tuple #[.int .i64 i, .int .i64 k]) ∧ Below w.heap.size w w' := by
  have := valid_calls w h; rw [he] at this; exact this
end Go.Proofs.Ytkhaemjoekfhiaa
namespace Go.Sx.Plt
def slc3 (id : Int) (l : List (Int × Int)) : List (Int × Int × Int) := l.map fun s => (id, s.1, s.2)
theorem slc3_snoc (id : Int) (l : List (Int × Int)) (s : Int × Int) : slc3 id (l ++ [s]) = slc3 id l ++ [(id, s.1, s.2)] := by simp [slc3]
theorem slc3_len (id : Int) (l : List (Int × Int)) : (slc3 id l).length = l.length := by simp [slc3]
theorem slices_skip {rel left : Int} {s : Sh} {r : List Sh} (h : left = 0 ∨ s.t ≤ max s.f rel) : slicesF rel left (s :: r) = slicesF rel left r := by rw [slicesF, if_pos h]
theorem slices_take {rel left : Int} {s : Sh} {r : List Sh} (h : ¬ (left = 0 ∨ s.t ≤ max s.f rel)) : slicesF rel left (s :: r) = (max s.f rel, min s.t (max s.f rel + left)) :: slicesF rel (left - (min s.t (max s.f rel + left) - max s.f rel)) r := by rw [slicesF, if_neg h]
theorem wrongS_ok : ∀ {l : List Sh} {b : Int} {i : Nat}, wrongS b i l = none → 0 ≤ b → ∀ s ∈ l, 0 ≤ s.f ∧ s.f < s.t ∧ s.t ≤ 1051898399
  | [], _, _, _, _, s, h => by cases h
  | a :: l, b, i, hw, hb, s, h => by
    rw [wrongS] at hw
    by_cases ha : a.ok b
    · rw [if_pos ha] at hw
      have ha' := ha
      unfold Sh.ok at ha'
      rcases List.mem_cons.1 h with rfl | h
      · omega
      · exact wrongS_ok hw (by omega) s h
    · rw [if_neg ha] at hw; cases hw
theorem allowed_ok {j : Job} {l : List Sh} (h : allowedF [j] l = (0, 0)) : j.ok ∧ l.length ≤ 200 ∧ ∀ s ∈ l, 0 ≤ s.f ∧ s.f < s.t ∧ s.t ≤ 1051898399 := by
  unfold allowedF at h
  split at h
  · cases h
  · rename_i hb
    split at h
    · cases h
    · rename_i h1
      split at h
      · cases h
      · rename_i h2
        refine ⟨?_, by omega, wrongS_ok h2 (by omega)⟩
        rw [wrongJ] at h1
        split at h1
        · rename_i h3; exact h3.1
        · cases h1
end Go.Sx.Plt
namespace Go.Proofs.Ytkhaemjoekfhiaa
open Go Go.Sx Go.RowKit
attribute [local irreducible] WL WC WQ WR WB WF QB St Exit.then Exit.inBlock Exit.noGoto bodyPost roundPost beginK YR RG BM Calls B AgainD MeetD
/-! ## the slices of one job -/
/-- A row of the call's own with something in it. -/
theorem OW.some {α : Type} {E : TypeId} {k : Nat} {enc : α → List Value} {a : Option Addr} {n cap : Nat} {xs : List α} {N : List Ent} (h : OW E k enc (.slice a n cap) xs N) (h0 : 0 < n) : ∃ b s, a = some ⟨b, 0, none⟩ ∧ N = [⟨b, Ce (xs.flatMap enc ++ s) E, true⟩] := by
  obtain ⟨_, _, e, _, hop⟩ := h.open
  cases e
  obtain ⟨b, s, h1, h2, _⟩ := hop h0
  exact ⟨b, s, h1, h2⟩
def encSl (x : Int × Int × Int) : List Value := [.int .i64 x.1, .int .i64 x.2.1, .int .i64 x.2.2]
theorem encSl_len : ∀ x, (encSl x).length = 3 := fun _ => rfl
theorem encSl_one : ∀ x, (encSl x).all (·.oneCell') = true := fun _ => rfl
theorem release_calls {jv : Value} {j : Plt.Job} {m r : Int} (hr : r = if j.rel > m then j.rel else 1051898400) (hj0 : j.rel ≤ 1051898399) (w : World) (h : SV w 4 encJob jv [j]) : Calls Try.prog 57 #[jv, .int .i64 m] w fun e w' => e = .returned (.int .i64 r) ∧ Below w.heap.size w w' := by
  obtain ⟨_, _, rfl, hc, hop⟩ := h.open
  obtain ⟨b, off, cc, e, fz, rfl, hk, hpt⟩ := hop (by simp)
  have g1 : ∀ k u, ([.int .i64 j.id, .int .i64 j.rel, .int .i64 j.due, .int .i64 j.mins] : List Value)[k]? = some u → cc[off + 0 * 4 + k]? = some u := hpt.get (m := 0) rfl
  simp only [List.length_cons, List.length_nil] at h hc ⊢
  refine f_enter2 Try.func57 rfl Try.ntmps57 rfl (Rep.start w) ?_
  repeat' (first | ((with_reducible first | apply o_move | apply o_assign | apply o_faddr0); exact rfl; exact rfl) | ((with_reducible apply o_len); infer_instance; exact rfl; exact rfl) | ((with_reducible first | apply c_seq | apply c_block | apply c_region | apply c_nil | apply c_ret | apply c_exit | apply c_skip)) | ((with_reducible first | apply e_then | apply e_then_ret | apply e_then_exit | apply e_in | apply e_in_ret | apply e_in_same)))
  apply c_loop (σ := Nat) (Fs := fun i => [(10, .int .i64 i), (9, .int .i64 1), (8, .slice (some ⟨b, off, none⟩) 1 _), (5, .int .i64 (if i = 0 then 1051898400 else r)), (1, .int .i64 m)])
    (Ls := fun i => []) (I := fun i => i ≤ 1) (μ := fun i => 1 - i) (s0 := 0)
  · exact Nat.zero_le _
  · exact fS_
  · exact hS_
  intro i hi
  have hi : i ≤ 1 := hi
  by_cases hlt : i < 1
  · obtain rfl : i = 0 := by omega
    by_cases hm : j.rel > m
    · rw [if_pos hm] at hr
      have hmin : (if j.rel < 1051898400 then j.rel else 1051898400) = r := by rw [hr]; split <;> omega
      as_aux_lemma =>
        repeat' (first | ((with_reducible apply c_cond_t); exact rfl; exact decide_eq_true (by omega)) | ((with_reducible first | apply o_idx (m := 0)); infer_instance; infer_instance; exact rfl; exact rfl; omega; exact rfl; omega) | ((with_reducible first | apply o_move | apply o_assign | apply o_faddr0); exact rfl; exact rfl) | ((with_reducible apply gdo_load); first | refine wo_load (h := ?_) | refine wo_loadAll (h := ?_) | refine wo_loadC (h := ?_) | refine wo_ldV (h := ?_) | refine wo_ldF (h := ?_)) | ((with_reducible first | apply o_lss | apply o_gtr | apply o_min2); exact rfl; exact rfl; exact rfl) | ((with_reducible apply o_add); exact rfl; exact rfl; exact rfl; (constructor <;> omega)) | ((with_reducible apply o_alloc); exact rfl; intro _) | ((with_reducible apply gdo_store); first | refine wo_store1 (h := ?_) | refine wo_storeA (h := ?_)) | ((with_reducible first | apply c_seq | apply c_block | apply c_region | apply c_nil | apply c_ret | apply c_exit | apply c_skip)) | ((with_reducible first | apply e_then | apply e_then_ret | apply e_then_exit | apply e_in | apply e_in_ret | apply e_in_same)))
        refine l_again 1 (by omega) (by omega) ?_ ?_
        · simp only [Nat.one_ne_zero, if_false]; rw [← hmin]; exact fS_
        · exact hS_
    · rw [if_neg hm] at hr
      as_aux_lemma =>
        repeat' (first | ((with_reducible apply c_cond_t); exact rfl; exact decide_eq_true (by omega)) | ((with_reducible apply c_cond_f); exact rfl; exact decide_eq_false (by omega)) | ((with_reducible first | apply o_idx (m := 0)); infer_instance; infer_instance; exact rfl; exact rfl; omega; exact rfl; omega) | ((with_reducible first | apply o_move | apply o_assign | apply o_faddr0); exact rfl; exact rfl) | ((with_reducible apply gdo_load); first | refine wo_load (h := ?_) | refine wo_loadAll (h := ?_) | refine wo_loadC (h := ?_) | refine wo_ldV (h := ?_) | refine wo_ldF (h := ?_)) | ((with_reducible first | apply o_lss | apply o_gtr | apply o_min2); exact rfl; exact rfl; exact rfl) | ((with_reducible apply o_add); exact rfl; exact rfl; exact rfl; (constructor <;> omega)) | ((with_reducible apply o_alloc); exact rfl; intro _) | ((with_reducible apply gdo_store); first | refine wo_store1 (h := ?_) | refine wo_storeA (h := ?_)) | ((with_reducible first | apply c_seq | apply c_block | apply c_region | apply c_nil | apply c_ret | apply c_exit | apply c_skip)) | ((with_reducible first | apply e_then | apply e_then_ret | apply e_then_exit | apply e_in | apply e_in_ret | apply e_in_same)))
        refine l_again 1 (by omega) (by omega) ?_ ?_
        · simp only [Nat.one_ne_zero, if_false]; rw [hr]; exact fS_
        · exact hS_
  obtain rfl : i = 1 := by omega
  repeat' (first | ((with_reducible apply c_cond_f); exact rfl; exact decide_eq_false (by omega)) | ((with_reducible first | apply o_move | apply o_assign | apply o_faddr0); exact rfl; exact rfl) | ((with_reducible first | apply o_lss | apply o_gtr | apply o_min2); exact rfl; exact rfl; exact rfl) | ((with_reducible first | apply c_seq | apply c_block | apply c_region | apply c_nil | apply c_ret | apply c_exit | apply c_skip)) | ((with_reducible first | apply e_then | apply e_then_ret | apply e_then_exit | apply e_in | apply e_in_ret | apply e_in_same)))
  apply r_body; apply res1 Try.results57; exact rV_; intro w' hw
  exact ⟨rfl, hw.below (by simp)⟩
theorem running_calls {j : Plt.Job} {m left : Int} {b2 b8 br bj oj cj cr : Nat} {sr : List Value} (w : World) (h2 : w.heap[b2]? = some (Ce [.slice (some ⟨bj, oj, none⟩) 1 cj] 128)) (h8 : w.heap[b8]? = some (Ce [.slice (some ⟨br, 0, none⟩) 1 cr] 43)) (hr : w.heap[br]? = some (Ce (.int .i64 left :: sr) 3)) (h : SV w 4 encJob (.slice (some ⟨bj, oj, none⟩) 1 cj) [j]) :
    Calls Try.prog 55 #[.int .i64 m, ptr b2, ptr b8] w fun e w' => e = .returned (.int .i64 (if j.rel > m ∨ left = 0 then -1 else 0)) ∧ Below w.heap.size w w' := by
  obtain ⟨_, _, e0, hc, hop⟩ := h.open
  cases e0
  obtain ⟨b, off, cc, e, fz, e1, hk, hpt⟩ := hop (by simp)
  obtain ⟨rfl, rfl⟩ : bj = b ∧ oj = off := by cases e1; exact ⟨rfl, rfl⟩
  have g1 : ∀ k u, ([.int .i64 j.id, .int .i64 j.rel, .int .i64 j.due, .int .i64 j.mins] : List Value)[k]? = some u → cc[oj + 0 * 4 + k]? = some u := hpt.get (m := 0) rfl
  have g2 : ((.int .i64 left :: sr) : List Value).toArray[0 + 0 * 1]? = some (.int .i64 left) := by simp
  by_cases hn : j.rel > m ∨ left = 0
  · rw [if_pos hn]
    refine f_enter3 Try.func55 rfl Try.ntmps55 rfl (Rep.start w) ?_
    repeat' (first | ((with_reducible first | apply o_move | apply o_assign | apply o_faddr0); exact rfl; exact rfl) | ((with_reducible apply gdo_load); first | refine wo_load (h := ?_) | refine wo_loadAll (h := ?_) | refine wo_loadC (h := ?_) | refine wo_ldV (h := ?_) | refine wo_ldF (h := ?_)) | ((with_reducible apply o_len); infer_instance; exact rfl; exact rfl) | ((with_reducible first | apply c_seq | apply c_block | apply c_region | apply c_nil | apply c_ret | apply c_exit | apply c_skip)) | ((with_reducible first | apply e_then | apply e_then_ret | apply e_then_exit | apply e_in | apply e_in_ret | apply e_in_same)))
    apply c_loop (σ := Nat) (Fs := fun i => [(10, .int .i64 i), (9, .int .i64 1), (8, .slice (some ⟨bj, oj, none⟩) 1 cj), (5, .int .i64 (-1)), (0, .int .i64 m), (1, ptr b2), (2, ptr b8)])
      (Ls := fun i => []) (I := fun i => i ≤ 1) (μ := fun i => 1 - i) (s0 := 0)
    · exact Nat.zero_le _
    · exact fS_
    · exact hS_
    intro i hi
    have hi : i ≤ 1 := hi
    by_cases hlt : i < 1
    · obtain rfl : i = 0 := by omega
      as_aux_lemma =>
        repeat' (first | ((with_reducible first | apply o_idx (m := 0) | apply q_idx (m := 0)); infer_instance; infer_instance; exact rfl; exact rfl; omega; exact rfl; omega) | ((with_reducible first | apply o_move | apply o_assign | apply o_faddr0); exact rfl; exact rfl) | ((with_reducible apply gdo_load); first | refine wo_load (h := ?_) | refine wo_loadAll (h := ?_) | refine wo_loadC (h := ?_) | refine wo_ldV (h := ?_) | refine wo_ldF (h := ?_)) | ((with_reducible first | apply o_lss | apply o_gtr | apply o_eql); exact rfl; exact rfl; exact rfl) | ((with_reducible apply o_add); exact rfl; exact rfl; exact rfl; (constructor <;> omega)) | ((with_reducible apply o_pick_t); exact rfl; exact tT_; exact rfl; exact rfl) | ((with_reducible apply o_pick_f); exact rfl; exact fF_; exact rfl; exact rfl) | ((with_reducible apply o_alloc); exact rfl; intro _) | ((with_reducible apply gdo_store); first | refine wo_store1 (h := ?_) | refine wo_storeA (h := ?_)) | ((with_reducible first | apply g_run); exact rfl; exact gG_) | ((with_reducible apply g_skip); exact rfl; exact gG_; exact rfl) | ((with_reducible first | apply c_seq | apply c_block | apply c_region | apply c_nil | apply c_ret | apply c_exit | apply c_skip)) | ((with_reducible apply c_cond_t); exact rfl; exact tT_) | ((with_reducible first | apply e_then | apply e_then_ret | apply e_then_exit | apply e_in | apply e_in_ret | apply e_in_same)) | ((with_reducible apply g_split_d); exact rfl; intro hcond; rotate_left; intro hcond; rotate_left))
        all_goals first
          | (exfalso; omega)
          | skip
        all_goals
          refine l_again 1 (by omega) (by omega) ?_ ?_
          · exact fS_
          · exact hS_
    obtain rfl : i = 1 := by omega
    repeat' (first | ((with_reducible apply c_cond_f); exact rfl; exact decide_eq_false (by omega)) | ((with_reducible first | apply o_move | apply o_assign | apply o_faddr0); exact rfl; exact rfl) | ((with_reducible first | apply o_lss | apply o_gtr | apply o_eql); exact rfl; exact rfl; exact rfl) | ((with_reducible first | apply c_seq | apply c_block | apply c_region | apply c_nil | apply c_ret | apply c_exit | apply c_skip)) | ((with_reducible first | apply e_then | apply e_then_ret | apply e_then_exit | apply e_in | apply e_in_ret | apply e_in_same)))
    apply r_body; apply res1 Try.results55; exact rV_; intro w' hw
    exact ⟨rfl, hw.below (by simp)⟩
  · rw [if_neg hn]
    refine f_enter3 Try.func55 rfl Try.ntmps55 rfl (Rep.start w) ?_
    repeat' (first | ((with_reducible first | apply o_move | apply o_assign | apply o_faddr0); exact rfl; exact rfl) | ((with_reducible apply gdo_load); first | refine wo_load (h := ?_) | refine wo_loadAll (h := ?_) | refine wo_loadC (h := ?_) | refine wo_ldV (h := ?_) | refine wo_ldF (h := ?_)) | ((with_reducible apply o_len); infer_instance; exact rfl; exact rfl) | ((with_reducible first | apply c_seq | apply c_block | apply c_region | apply c_nil | apply c_ret | apply c_exit | apply c_skip)) | ((with_reducible first | apply e_then | apply e_then_ret | apply e_then_exit | apply e_in | apply e_in_ret | apply e_in_same)))
    apply c_loop (σ := Nat) (Fs := fun i => [(10, .int .i64 i), (9, .int .i64 1), (8, .slice (some ⟨bj, oj, none⟩) 1 cj), (5, .int .i64 (if i = 0 then -1 else 0)), (0, .int .i64 m), (1, ptr b2), (2, ptr b8)])
      (Ls := fun i => []) (I := fun i => i ≤ 1) (μ := fun i => 1 - i) (s0 := 0)
    · exact Nat.zero_le _
    · exact fS_
    · exact hS_
    intro i hi
    have hi : i ≤ 1 := hi
    by_cases hlt : i < 1
    · obtain rfl : i = 0 := by omega
      as_aux_lemma =>
        repeat' (first | ((with_reducible first | apply o_idx (m := 0) | apply q_idx (m := 0)); infer_instance; infer_instance; exact rfl; exact rfl; omega; exact rfl; omega) | ((with_reducible first | apply o_move | apply o_assign | apply o_faddr0); exact rfl; exact rfl) | ((with_reducible apply gdo_load); first | refine wo_load (h := ?_) | refine wo_loadAll (h := ?_) | refine wo_loadC (h := ?_) | refine wo_ldV (h := ?_) | refine wo_ldF (h := ?_)) | ((with_reducible first | apply o_lss | apply o_gtr | apply o_eql); exact rfl; exact rfl; exact rfl) | ((with_reducible apply o_add); exact rfl; exact rfl; exact rfl; (constructor <;> omega)) | ((with_reducible apply o_pick_f); exact rfl; exact fF_; exact rfl; exact rfl) | ((with_reducible apply o_alloc); exact rfl; intro _) | ((with_reducible apply gdo_store); first | refine wo_store1 (h := ?_) | refine wo_storeA (h := ?_)) | ((with_reducible first | apply g_run); exact rfl; exact gG_) | ((with_reducible first | apply c_seq | apply c_block | apply c_region | apply c_nil | apply c_ret | apply c_exit | apply c_skip)) | ((with_reducible apply c_cond_t); exact rfl; exact tT_) | ((with_reducible apply c_cond_f); exact rfl; exact fF_) | ((with_reducible first | apply e_then | apply e_then_ret | apply e_then_exit | apply e_in | apply e_in_ret | apply e_in_same)) | ((with_reducible apply c_regionD0 (id := 6) []); kernel_rfl; kernel_rfl) | ((with_reducible apply q_nil); try simp only [ents, List.cons_append, List.nil_append]) | ((with_reducible first | apply q_move | apply q_assign | apply q_faddr0); exact rfl; exact rfl) | ((with_reducible first | apply q_lss | apply q_gtr); exact rfl; exact rfl; exact rfl) | ((with_reducible apply q_pick_t); exact rfl; exact tT_; exact rfl; exact rfl) | ((with_reducible apply h_skip); exact rfl; exact gG_; exact rfl))
        all_goals first
          | (exfalso; omega)
          | skip
        all_goals
          refine l_again 1 (by omega) (by omega) ?_ ?_
          · simp only [Nat.one_ne_zero, if_false]; exact fS_
          · exact hS_
    obtain rfl : i = 1 := by omega
    repeat' (first | ((with_reducible apply c_cond_f); exact rfl; exact decide_eq_false (by omega)) | ((with_reducible first | apply o_move | apply o_assign | apply o_faddr0); exact rfl; exact rfl) | ((with_reducible first | apply o_lss | apply o_gtr | apply o_eql); exact rfl; exact rfl; exact rfl) | ((with_reducible first | apply c_seq | apply c_block | apply c_region | apply c_nil | apply c_ret | apply c_exit | apply c_skip)) | ((with_reducible first | apply e_then | apply e_then_ret | apply e_then_exit | apply e_in | apply e_in_ret | apply e_in_same)))
    apply r_body; apply res1 Try.results55; exact rV_; intro w' hw
    exact ⟨rfl, hw.below (by simp)⟩
end Go.Proofs.Ytkhaemjoekfhiaa
