/- A part of the proofs of this seat: a small logic of walks, plain laws, and what some of the program's functions compute, shown by walks through their code. Conditions: the hypotheses that each theorem names. -/
import Derived.Test.YthcoaljmgkhglaaZOTop3
import Derived.Test.YthcoaljmgkhglaaZOTop4
set_option linter.unusedSimpArgs false
set_option linter.unusedVariables false
set_option linter.unusedSectionVars false
namespace Go.Proofs.Ythcoaljmgkhglaa
open Go Go.Sx Go.RowKit
attribute [local irreducible] WL WC WQ WR WB WF QB St Exit.then Exit.inBlock Exit.noGoto bodyPost roundPost beginK YR RG BM Calls B AgainD MeetD
instance : TA2 Try.prog 76 := ⟨by
  obtain ⟨i, hi⟩ := Option.isSome_iff_exists.1 (show (Try.prog.info? 3).isSome = true by kernel_rfl)
  exact ⟨3, i, Try.underlying76, hi, by kernel_rfl, Try.underlying3, TA.h (P := Try.prog) (t := 3)⟩⟩
def nsd : SD := (none, 0, 0)
/-! ## lists of keys and of what they hold -/
theorem zip_keys {K V : Type} {ks : List K} {vs : List V} (h : ks.length = vs.length) : (ks.zip vs).map Prod.fst = ks := by rw [List.map_fst_zip]; omega
theorem zip_as {K V W : Type} [DecidableEq K] {k : K} : ∀ {ks : List K} {vs : List V} {ws : List W}, ks.length = vs.length → ks.length = ws.length → (asF k (ks.zip vs) = none ∧ asF k (ks.zip ws) = none) ∨ ∃ (j : Nat) (v : V) (u : W), ks[j]? = some k ∧ vs[j]? = some v ∧ ws[j]? = some u ∧ asF k (ks.zip vs) = some v ∧ asF k (ks.zip ws) = some u
  | [], _, _, _, _ => .inl ⟨rfl, rfl⟩
  | a :: ks, [], _, h, _ => by simp at h
  | a :: ks, v :: vs, [], _, h => by simp at h
  | a :: ks, v :: vs, u :: ws, h1, h2 => by
    by_cases e : a = k
    · subst e; exact .inr ⟨0, v, u, rfl, rfl, rfl, by simp [asF], by simp [asF]⟩
    · rcases zip_as (k := k) (ks := ks) (vs := vs) (ws := ws) (by simpa using h1) (by simpa using h2) with ⟨h3, h4⟩ | ⟨j, v', u', h3, h4, h5, h6, h7⟩
      · exact .inl ⟨by simp [asF, e, h3], by simp [asF, e, h4]⟩
      · exact .inr ⟨j + 1, v', u', by simpa using h3, by simpa using h4, by simpa using h5, by simp [asF, e, h6], by simp [asF, e, h7]⟩
theorem zip_get {K V : Type} {ks : List K} {vs : List V} {j : Nat} {k : K} {v : V} (h1 : ks[j]? = some k) (h2 : vs[j]? = some v) : (ks.zip vs)[j]? = some (k, v) := by
  rw [List.getElem?_zip_eq_some]; exact ⟨h1, h2⟩
theorem zip_set {K V : Type} {k : K} (v : V) : ∀ {ks : List K} {vs : List V} {j : Nat}, ks[j]? = some k → (ks.zip vs).set j (k, v) = ks.zip (vs.set j v)
  | [], _, _, h => by simp at h
  | a :: ks, [], j, h => by simp
  | a :: ks, u :: vs, 0, h => by simp at h; subst h; simp
  | a :: ks, u :: vs, j + 1, h => by
    simp only [List.zip_cons_cons, List.set_cons_succ]
    rw [zip_set v (by simpa using h)]
theorem zip_snoc {K V : Type} {ks : List K} {vs : List V} (h : ks.length = vs.length) (k : K) (v : V) : (ks ++ [k]).zip (vs ++ [v]) = ks.zip vs ++ [(k, v)] := by rw [List.zip_append h]; rfl
theorem nodup_snoc {α : Type} {l : List α} {x : α} (h : l.Nodup) (hx : x ∉ l) : (l ++ [x]).Nodup := by
  rw [List.nodup_append]
  refine ⟨h, by simp, fun a ha b hb e => ?_⟩
  simp at hb; subst hb; subst e; exact hx ha
/-! ## Route -/
theorem first_is {v : Value} {rs : List Ref.Rg} {n : Int} {b : Nat} {o : Option Ref.Rg} (hn : 0 ≤ n ∧ n ≤ 255) (ho : rs.find? (Ref.hasF · n) = o) (w : World) (h : SV w 7 encRg v rs) (hb : w.heap[b]? = some (Ce [.int .i64 n] 3)) :
    Calls Try.prog 14 #[v, .func (.func 15) #[] #[ptr b]] w fun e w' => e = .returned (firstRV o) ∧ Below w.heap.size w w' := by
  subst ho; exact firstR_calls hn w h hb
theorem ofKey_snoc {rs : List Ref.Rg} {i : Nat} {g : Ref.Rg} (h : rs[i]? = some g) (k : Int × Int) : Ref.ofKey k (rs.take (i + 1)) = Ref.ofKey k (rs.take i) ++ if (g.town, g.street) = k then [g] else [] := by
  rw [take_snoc h]
  unfold Ref.ofKey
  rw [List.filter_append]
  congr 1
  obtain ⟨k1, k2⟩ := k
  by_cases hk : g.town = k1 ∧ g.street = k2
  · rw [if_pos (by rw [hk.1, hk.2])]; simp [hk]
  · rw [if_neg (fun e => hk ⟨congrArg Prod.fst e, congrArg Prod.snd e⟩)]; simp [hk]
def onO (route : Int) : Option Ref.Rg → Bool
  | some g => decide (g.route = route)
  | none => false
theorem onF_eq (rs : List Ref.Rg) (route : Int) (p : Ref.Pt) : Ref.onF rs route p = onO route ((Ref.ofKey (p.town, p.street) rs).find? (Ref.hasF · (Ref.numF p))) := by
  unfold Ref.onF
  cases (Ref.ofKey (p.town, p.street) rs).find? (Ref.hasF · (Ref.numF p)) <;> rfl
theorem stops_snoc {rs : List Ref.Rg} {ps : List Ref.Pt} {i : Nat} {p : Ref.Pt} (h : ps[i]? = some p) (route : Int) : Ref.stopsOf rs (ps.take (i + 1)) route = Ref.stopsOf rs (ps.take i) route ++ if Ref.onF rs route p = true then [p] else [] := by
  rw [take_snoc h]
  unfold Ref.stopsOf
  rw [List.filter_append]
  congr 1
  cases hq : Ref.onF rs route p <;> simp [hq]
set_option maxHeartbeats 16000000 in
set_option maxRecDepth 100000 in
theorem route_calls {v0 v1 v2 v3 : Value} {rs : List Ref.Rg} {ps : List Ref.Pt} (route : Int) (hAl : Ref.Along ps) (hpl : ps.length ≤ 60) (hrl : rs.length ≤ 100000) (hnum : ∀ p ∈ ps, 0 ≤ Ref.numF p ∧ Ref.numF p ≤ 255) (w : World) (hrs : SV w 7 encRg v2 rs) (hps : SV w 8 encPt v3 ps) :
    Calls Try.prog 6 #[.agg #[v0, v1, v2, v3], .int .i64 route] w fun e w' => ∃ v N, e = .returned v ∧ (∃ a c, v = .slice a (Ref.routeF rs ps route).length c ∧ OW 3 1 encI v (Ref.routeF rs ps route) N) ∧ Rep w w' N ∧ ∀ x ∈ N, x.own = true := by
  obtain ⟨a2, c2, rfl, hc2, -⟩ := hrs.open
  obtain ⟨a3, c3, rfl, hc3, -⟩ := hps.open
  refine f_enter2 Try.func6 rfl Try.ntmps6 rfl (Rep.start w) ?_
  repeat' (first | ((with_reducible first | apply o_move | apply o_assign | apply o_faddr0); exact rfl; exact rfl) | ((with_reducible apply gdo_load); first | refine wo_load (h := ?_) | refine wo_loadAll (h := ?_) | refine wo_loadC (h := ?_) | refine wo_ldV (h := ?_)) | ((with_reducible first | apply o_alloc | apply o_makeMap0); exact rfl; intro _) | ((with_reducible apply o_box); exact rfl; exact rfl; exact rfl; intro _) | ((with_reducible apply o_len); infer_instance; exact rfl; exact rfl) | ((with_reducible first | apply c_seq | apply c_block | apply c_region | apply c_nil | apply c_ret | apply c_exit | apply c_skip)) | ((with_reducible first | apply e_then | apply e_then_ret | apply e_then_exit | apply e_in | apply e_in_ret | apply e_in_same)))
  rename_i b2 b5
  apply c_loop (σ := Nat × List (Int × Int) × List SD × List (List Ref.Rg) × List Ent) (Fs := fun t => [(22, .int .i64 t.1), (21, .int .i64 rs.length), (20, .slice a2 rs.length c2), (5, .map (some b5)), (4, .slice none 0 0), (2, ptr b2), (1, .int .i64 route)])
    (Ls := fun t => ⟨b5, MO (MM kA sdV (t.2.1.zip t.2.2.1)), true⟩ :: ⟨b2, Ce [v0, v1, .slice a2 rs.length c2, .slice a3 ps.length c3] 31, true⟩ :: (t.2.2.2.2 ++ []))
    (I := fun t => t.1 ≤ rs.length ∧ (t.2.1.length = t.2.2.1.length ∧ t.2.1.length = t.2.2.2.1.length) ∧ t.2.1.Nodup ∧ (∀ k, Ref.ofKey k (rs.take t.1) = (asF k (t.2.1.zip t.2.2.2.1)).getD []) ∧ LL 37 7 encRg t.2.2.1 t.2.2.2.1 t.2.2.2.2 ∧ ∀ x ∈ t.2.2.2.1, x.length ≤ t.1)
    (μ := fun t => rs.length - t.1) (s0 := (0, [], [], [], []))
  · exact ⟨Nat.zero_le _, ⟨rfl, rfl⟩, by simp, fun k => by simp [Ref.ofKey, asF], LL.nil, by simp⟩
  · exact fS_
  · exact hS_
  rintro ⟨i, KS, sds, xss, M⟩ ⟨hi2, ⟨hks, hkx⟩, hkn, hbr, hLL, hxl⟩
  dsimp only at hi2 hks hkx hkn hbr hLL hxl ⊢
  have oM := hLL.own
  by_cases hlt : i < rs.length
  · obtain ⟨⟨g0, g1, g2, g3, g4, g5, g6⟩, hx⟩ : ∃ s, rs[i]? = some s := ⟨_, List.getElem?_eq_getElem hlt⟩
    obtain ⟨be, oe, rfl⟩ := SV.ptr hrs hx
    have hbs : ∀ k, Ref.ofKey k (rs.take (i + 1)) = (asF k (putF (g0, g1) ((asF (g0, g1) (KS.zip xss)).getD [] ++ [(⟨g0, g1, g2, g3, g4, g5, g6⟩ : Ref.Rg)]) (KS.zip xss))).getD [] := fun k => by
      rw [ofKey_snoc hx, asF_put, hbr]
      dsimp only
      by_cases hk : (g0, g1) = k
      · subst hk; rw [if_pos rfl, if_pos rfl, Option.getD_some]
      · rw [if_neg hk, if_neg hk, List.append_nil]
    have hzn : ((KS.zip sds).map Prod.fst).Nodup := by rw [zip_keys hks]; exact hkn
    have hzx : ((KS.zip xss).map Prod.fst).Nodup := by rw [zip_keys hkx]; exact hkn
    rcases zip_as (k := (g0, g1)) hks hkx with ⟨ho, ho2⟩ | ⟨j, sd, xs, hj1, hj2, hj3, ho, ho2⟩
    · have h0 : OW 37 7 encRg (.slice none 0 0) ([] : List Ref.Rg) [] := OW.nil
      have hz1 : (KS.zip sds ++ [((g0, g1), nsd)])[(KS.zip sds).length]? = some ((g0, g1), nsd) := by simp
      have hz2 : ∀ sd', (KS.zip sds ++ [((g0, g1), nsd)]).set (KS.zip sds).length ((g0, g1), sd') = (KS ++ [(g0, g1)]).zip (sds ++ [sd']) := fun sd' => by rw [zip_snoc hks]; simp
      have hkn2 : (KS ++ [(g0, g1)]).Nodup := nodup_snoc hkn (fun hh => by
        obtain ⟨j, hj⟩ := List.getElem?_of_mem hh
        have hjl := (List.getElem?_eq_some_iff.1 hj).1
        have := asF_at hzn (zip_get hj (List.getElem?_eq_getElem (by omega : j < sds.length)))
        rw [ho] at this; cases this)
      have hb2 : ∀ k, Ref.ofKey k (rs.take (i + 1)) = (asF k ((KS ++ [(g0, g1)]).zip (xss ++ [[(⟨g0, g1, g2, g3, g4, g5, g6⟩ : Ref.Rg)]]))).getD [] := fun k => by rw [hbs, ho2, putF_new ho2, zip_snoc hkx]; rfl
      have hxl2 : ∀ x ∈ xss ++ [[(⟨g0, g1, g2, g3, g4, g5, g6⟩ : Ref.Rg)]], x.length ≤ i + 1 := fun x hx => by
        rcases List.mem_append.1 hx with hx | hx
        · have := hxl x hx; omega
        · simp at hx; subst hx; simp
      as_aux_lemma =>
        repeat' (first | ((with_reducible apply c_cond_t); exact rfl; exact decide_eq_true (by omega)) | ((with_reducible apply o_ldPV (l := [.int .i64 g0, .int .i64 g1, .int .i64 g2, .int .i64 g3, .int .u8 g4, str g5, .int .i64 g6])); infer_instance; infer_instance; exact rfl; (intro w' hw' j' v' hj'; exact SV.cell (hrs.keep hw' (by exact aO_)) hx hj'); exact rfl; exact rfl) | ((with_reducible apply o_entry_out (κ := kA) (ν := sdV) (k := (g0, g1)) (v := nsd) (z := .slice none 0 0)); exact rfl; infer_instance; infer_instance; infer_instance; exact rfl; exact rfl; exact aT_; assumption; exact uP_; exact rfl) | (apply o_appH (enc := encRg) (ys := [((⟨g0, g1, g2, g3, g4, g5, g6⟩ : Ref.Rg))]); infer_instance; infer_instance; infer_instance; exact rfl; exact encRg_len; exact encRg_one; exact rfl; exact rfl; exact rfl; assumption; exact rL_; (exact fun w hw => SV.lit [((⟨g0, g1, g2, g3, g4, g5, g6⟩ : Ref.Rg))] encRg_len hw (by exact aT_) rfl rfl (by decide)); (first | decide | (constructor <;> (try simp only [List.length_cons, List.length_nil]) <;> omega) | (constructor <;> simp <;> omega)); intro a_ cp_ N_ hO_; have oN_ := hO_.own; (try simp only [List.nil_append, List.append_assoc] at hO_); (try simp only [List.append_eq, List.append_assoc, List.cons_append, List.nil_append])) | ((with_reducible apply o_entryStore (κ := kA) (ν := sdV) (j := (KS.zip sds).length) (l := KS.zip sds ++ [((g0, g1), nsd)]) (g0, g1) nsd (a_, [(⟨g0, g1, g2, g3, g4, g5, g6⟩ : Ref.Rg)].length, cp_)); exact rfl; exact rfl; exact rfl; exact aT_; exact hz1; exact rfl; exact uP_) | ((with_reducible first | apply o_move | apply o_assign | apply o_faddr0); exact rfl; exact rfl) | ((with_reducible apply gdo_load); first | refine wo_load (h := ?_) | refine wo_loadAll (h := ?_) | refine wo_loadC (h := ?_) | refine wo_ldV (h := ?_)) | ((with_reducible first | apply o_lss | apply o_eql | apply o_extract); exact rfl; exact rfl; exact rfl) | ((with_reducible apply o_add); exact rfl; exact rfl; exact rfl; (constructor <;> omega)) | ((with_reducible first | apply o_alloc | apply o_makeMap0); exact rfl; intro _) | ((with_reducible apply gdo_store); first | refine wo_store1 (h := ?_) | refine wo_storeA (h := ?_)) | ((with_reducible apply gdo_build); first | refine wo_build (h := ?_) | refine wo_buildA (h := ?_)) | ((with_reducible apply gdo_buildSlice); refine wo_buildSlice (h := fun _ => ?_)) | ((with_reducible apply o_idx); infer_instance; infer_instance; exact rfl; exact rfl; (first | exact rfl | omega); exact rfl; (first | assumption | omega | decide)) | ((with_reducible first | apply c_seq | apply c_block | apply c_region | apply c_nil | apply c_ret | apply c_exit | apply c_skip)) | ((with_reducible first | apply e_then | apply e_then_ret | apply e_then_exit | apply e_in | apply e_in_ret | apply e_in_same)))
        refine l_again (i + 1, KS ++ [(g0, g1)], sds ++ [(a_, [(⟨g0, g1, g2, g3, g4, g5, g6⟩ : Ref.Rg)].length, cp_)], xss ++ [[(⟨g0, g1, g2, g3, g4, g5, g6⟩ : Ref.Rg)]], M ++ N_) ⟨by dsimp only; omega, ⟨by simp [hks], by simp [hkx]⟩, hkn2, hb2, hLL.snoc hO_, hxl2⟩ (by dsimp only; omega) ?_ ?_
        · exact fS_
        · dsimp only; rw [← hz2]; simp only [List.append_assoc]; exact hS_
    · obtain ⟨sd1, N, MB1, MB2, z1, z2, rfl, z3, z4, z5⟩ := hLL.at hj3
      rw [hj2] at z1
      cases z1
      obtain ⟨sa, sn, sc⟩ := sd
      obtain ⟨_, _, ez, hzb, _⟩ := z2.open
      dsimp only [sdV] at ez
      cases ez
      have oN := z2.own
      have hxs := hxl xs (List.mem_of_getElem? hj3)
      have hz1 : (KS.zip sds)[j]? = some ((g0, g1), (sa, xs.length, sc)) := zip_get hj1 hj2
      have hz2 : ∀ sd' : SD, (KS.zip sds).set j ((g0, g1), sd') = KS.zip (sds.set j sd') := fun sd' => zip_set sd' hj1
      have hb2 : ∀ k, Ref.ofKey k (rs.take (i + 1)) = (asF k (KS.zip (xss.set j (xs ++ [(⟨g0, g1, g2, g3, g4, g5, g6⟩ : Ref.Rg)])))).getD [] := fun k => by rw [hbs, ho2, Option.getD_some, putF_set hzx (zip_get hj1 hj3), zip_set _ hj1]
      have hxl2 : ∀ x ∈ xss.set j (xs ++ [(⟨g0, g1, g2, g3, g4, g5, g6⟩ : Ref.Rg)]), x.length ≤ i + 1 := fun x hx => by
        rcases List.mem_or_eq_of_mem_set hx with hx | rfl
        · have := hxl x hx; omega
        · simp; omega
      simp only [List.append_assoc]
      as_aux_lemma =>
        repeat' (first | ((with_reducible apply c_cond_t); exact rfl; exact decide_eq_true (by omega)) | ((with_reducible apply o_ldPV (l := [.int .i64 g0, .int .i64 g1, .int .i64 g2, .int .i64 g3, .int .u8 g4, str g5, .int .i64 g6])); infer_instance; infer_instance; exact rfl; (intro w' hw' j' v' hj'; exact SV.cell (hrs.keep hw' (by exact aO_)) hx hj'); exact rfl; exact rfl) | ((with_reducible apply o_entry_in (κ := kA) (ν := sdV) (k := (g0, g1)) (v := (sa, xs.length, sc)) (j := j)); infer_instance; infer_instance; exact rfl; exact rfl; exact aT_; assumption; exact hz1; exact uP_; exact rfl) | (apply o_appH (enc := encRg) (ys := [((⟨g0, g1, g2, g3, g4, g5, g6⟩ : Ref.Rg))]); infer_instance; infer_instance; infer_instance; exact rfl; exact encRg_len; exact encRg_one; exact rfl; exact rfl; exact rfl; assumption; exact rL_; (exact fun w hw => SV.lit [((⟨g0, g1, g2, g3, g4, g5, g6⟩ : Ref.Rg))] encRg_len hw (by exact aT_) rfl rfl (by decide)); (first | decide | (constructor <;> (try simp only [List.length_cons, List.length_nil]) <;> omega) | (constructor <;> simp <;> omega)); intro a_ cp_ N_ hO_; have oN_ := hO_.own; (try simp only [List.nil_append, List.append_assoc] at hO_); (try simp only [List.append_eq, List.append_assoc, List.cons_append, List.nil_append])) | ((with_reducible apply o_entryStore (κ := kA) (ν := sdV) (j := j) (l := KS.zip sds) (g0, g1) (sa, xs.length, sc) (a_, (xs ++ [(⟨g0, g1, g2, g3, g4, g5, g6⟩ : Ref.Rg)]).length, cp_)); exact rfl; exact rfl; exact rfl; exact aT_; exact hz1; exact rfl; exact uP_) | ((with_reducible first | apply o_move | apply o_assign | apply o_faddr0); exact rfl; exact rfl) | ((with_reducible apply gdo_load); first | refine wo_load (h := ?_) | refine wo_loadAll (h := ?_) | refine wo_loadC (h := ?_) | refine wo_ldV (h := ?_)) | ((with_reducible first | apply o_lss | apply o_eql | apply o_extract); exact rfl; exact rfl; exact rfl) | ((with_reducible apply o_add); exact rfl; exact rfl; exact rfl; (constructor <;> omega)) | ((with_reducible first | apply o_alloc | apply o_makeMap0); exact rfl; intro _) | ((with_reducible apply gdo_store); first | refine wo_store1 (h := ?_) | refine wo_storeA (h := ?_)) | ((with_reducible apply gdo_build); first | refine wo_build (h := ?_) | refine wo_buildA (h := ?_)) | ((with_reducible apply gdo_buildSlice); refine wo_buildSlice (h := fun _ => ?_)) | ((with_reducible apply o_idx); infer_instance; infer_instance; exact rfl; exact rfl; (first | exact rfl | omega); exact rfl; (first | assumption | omega | decide)) | ((with_reducible first | apply c_seq | apply c_block | apply c_region | apply c_nil | apply c_ret | apply c_exit | apply c_skip)) | ((with_reducible first | apply e_then | apply e_then_ret | apply e_then_exit | apply e_in | apply e_in_ret | apply e_in_same)))
        refine l_again (i + 1, KS, sds.set j (a_, (xs ++ [(⟨g0, g1, g2, g3, g4, g5, g6⟩ : Ref.Rg)]).length, cp_), xss.set j (xs ++ [(⟨g0, g1, g2, g3, g4, g5, g6⟩ : Ref.Rg)]), MB1 ++ (N_ ++ MB2)) ⟨by dsimp only; omega, ⟨by simp [hks], by simp [hkx]⟩, hkn, hb2, z5 _ _ _ hO_, hxl2⟩ (by dsimp only; omega) ?_ ?_
        · exact fS_
        · dsimp only; rw [← hz2]; simp only [List.append_assoc]; exact hS_
  obtain rfl : i = rs.length := by omega
  rw [List.take_length] at hbr
  have hrow : ∀ k sd, asF k (KS.zip sds) = some sd → Shw M (fun w => SV w 7 encRg (sdV sd) (Ref.ofKey k rs)) := fun k sd hs => by
    rcases zip_as (k := k) hks hkx with ⟨ho, _⟩ | ⟨j, sd1, xs, hj1, hj2, hj3, ho, ho2⟩
    · rw [ho] at hs; cases hs
    · rw [ho] at hs; cases hs
      rw [hbr, ho2, Option.getD_some]
      exact (Shw.ll encRg_len hLL).mono fun w hsl => hsl.2 _ _ _ hj2 hj3
  have hrow0 : ∀ k, asF k (KS.zip sds) = none → Ref.ofKey k rs = [] := fun k hs => by
    rcases zip_as (k := k) hks hkx with ⟨_, ho2⟩ | ⟨j, sd1, xs, hj1, hj2, hj3, ho, ho2⟩
    · rw [hbr, ho2]; rfl
    · rw [ho] at hs; cases hs
  have hin : ((KS.zip sds).map Prod.fst).Nodup := by rw [zip_keys hks]; exact hkn
  generalize KS.zip sds = its at hrow hrow0 hin ⊢
  clear hbr hLL hkn hks hkx hxl
  repeat' (first | ((with_reducible apply c_cond_f); exact rfl; exact decide_eq_false (by omega)) | ((with_reducible first | apply o_move | apply o_assign | apply o_faddr0); exact rfl; exact rfl) | ((with_reducible apply gdo_load); first | refine wo_load (h := ?_) | refine wo_loadAll (h := ?_) | refine wo_loadC (h := ?_) | refine wo_ldV (h := ?_)) | ((with_reducible first | apply o_lss | apply o_eql | apply o_extract); exact rfl; exact rfl; exact rfl) | ((with_reducible apply o_len); infer_instance; exact rfl; exact rfl) | ((with_reducible first | apply c_seq | apply c_block | apply c_region | apply c_nil | apply c_ret | apply c_exit | apply c_skip)) | ((with_reducible first | apply e_then | apply e_then_ret | apply e_then_exit | apply e_in | apply e_in_ret | apply e_in_same)))
  apply c_loop (σ := Nat × (Option Addr × Nat) × List Ent) (Fs := fun t => [(43, .int .i64 t.1), (42, .int .i64 ps.length), (41, .slice a3 ps.length c3), (9, .slice t.2.1.1 (Ref.stopsOf rs (ps.take t.1) route).length t.2.1.2), (5, .map (some b5)), (1, .int .i64 route)])
    (Ls := fun t => ⟨b5, MO (MM kA sdV its), true⟩ :: (t.2.2 ++ (M ++ [])))
    (I := fun t => t.1 ≤ ps.length ∧ OW 40 8 encPt (.slice t.2.1.1 (Ref.stopsOf rs (ps.take t.1) route).length t.2.1.2) (Ref.stopsOf rs (ps.take t.1) route) t.2.2)
    (μ := fun t => ps.length - t.1) (s0 := (0, (none, 0), []))
  · exact ⟨Nat.zero_le _, OW.nil⟩
  · exact fS_
  · (try dsimp only); simp only [List.nil_append, List.append_nil]; exact HSub.take Rem.hd (HSub.drop HSub.same)
  rintro ⟨i, ⟨ao, co⟩, NO⟩ ⟨hi, hO⟩
  dsimp only at hi hO ⊢
  have oO := hO.own
  have hsl : (Ref.stopsOf rs (ps.take i) route).length ≤ 60 := by
    have h1 : (Ref.stopsOf rs (ps.take i) route).length ≤ (ps.take i).length := List.length_filter_le _ _
    rw [List.length_take] at h1; omega
  by_cases hlt : i < ps.length
  · obtain ⟨⟨q0, q1, q2, q3, q4, q5, q6, q7⟩, hx⟩ : ∃ s, ps[i]? = some s := ⟨_, List.getElem?_eq_getElem hlt⟩
    have hnb := hnum _ (List.mem_of_getElem? hx)
    have e1 := stops_snoc (rs := rs) hx route
    obtain ⟨be, oe, rfl⟩ := SV.ptr hps hx
    obtain ⟨og, hfd⟩ : ∃ og, (Ref.ofKey (q1, q2) rs).find? (Ref.hasF · (Ref.numF (⟨q0, q1, q2, q3, q4, q5, q6, q7⟩ : Ref.Pt))) = og := ⟨_, rfl⟩
    have hon : Ref.onF rs route (⟨q0, q1, q2, q3, q4, q5, q6, q7⟩ : Ref.Pt) = onO route og := by rw [onF_eq, ← hfd]
    cases hlk : asF ((q1, q2) : Int × Int) its with
    | none =>
      rw [hrow0 _ hlk] at hfd
      obtain rfl : og = none := by rw [← hfd]; rfl
      rw [hon, if_neg (by simp [onO]), List.append_nil] at e1
      as_aux_lemma =>
        repeat' (first | ((with_reducible apply c_cond_t); exact rfl; exact decide_eq_true (by omega)) | ((with_reducible apply o_ldPV (l := [.int .i64 q0, .int .i64 q1, .int .i64 q2, .int .i64 q3, str q4, str q5, .int .i64 q6, .int .i64 q7])); infer_instance; infer_instance; exact rfl; (intro w' hw' j' v' hj'; exact SV.cell (hps.keep hw' (by exact aO_)) hx hj'); exact rfl; exact rfl) | ((first | ((with_reducible apply o_call_pure (f := 13)); exact rfl) | ((with_reducible apply q_call_pure (f := 13)); exact rfl; kernel_rfl; exact rfl; exact sJ_)); exact eV_; exact (fun w _ => numb_calls (⟨q0, q1, q2, q3, q4, q5, q6, q7⟩ : Ref.Pt) w)) | ((with_reducible apply o_lookM_out (κ := kA) (ν := sdV) (l := its) (k := (q1, q2))); infer_instance; infer_instance; infer_instance; exact rfl; exact rfl; exact kN_; exact hlk; exact rfl) | ((first | ((with_reducible apply o_call_pure (f := 14)); exact rfl) | ((with_reducible apply q_call_pure (f := 14)); exact rfl; kernel_rfl; exact rfl; exact sJ_)); exact eV_; exact (fun w hw => first_is hnb hfd w SV.nil (hw.at (by exact aT_)))) | ((with_reducible first | apply o_move | apply o_assign | apply o_faddr0); exact rfl; exact rfl) | ((with_reducible apply gdo_load); first | refine wo_load (h := ?_) | refine wo_loadAll (h := ?_) | refine wo_loadC (h := ?_) | refine wo_ldV (h := ?_)) | ((with_reducible first | apply o_lss | apply o_eql | apply o_extract); exact rfl; exact rfl; exact rfl) | ((with_reducible apply o_add); exact rfl; exact rfl; exact rfl; (constructor <;> omega)) | ((with_reducible apply o_pick_f); exact rfl; exact fF_; exact rfl; exact rfl) | ((with_reducible first | apply o_alloc | apply o_makeMap0); exact rfl; intro _) | ((with_reducible apply gdo_store); first | refine wo_store1 (h := ?_) | refine wo_storeA (h := ?_)) | ((with_reducible apply gdo_build); first | refine wo_build (h := ?_) | refine wo_buildA (h := ?_)) | ((with_reducible apply gdo_makeFunc); refine wo_func (h := ?_)) | ((with_reducible apply o_idx); infer_instance; infer_instance; exact rfl; exact rfl; (first | exact rfl | omega); exact rfl; (first | assumption | omega | decide)) | ((with_reducible apply g_skip); exact rfl; exact gG_; exact rfl) | ((with_reducible first | apply c_seq | apply c_block | apply c_region | apply c_nil | apply c_ret | apply c_exit | apply c_skip)) | ((with_reducible apply c_cond_f); exact rfl; exact fF_) | ((with_reducible first | apply e_then | apply e_then_ret | apply e_then_exit | apply e_in | apply e_in_ret | apply e_in_same)))
        refine l_again (i + 1, (ao, co), NO) ⟨by dsimp only; omega, by dsimp only; rw [e1]; exact hO⟩ (by dsimp only; omega) ?_ ?_
        · (try dsimp only); rw [e1]; exact fS_
        · exact hS_
    | some sd =>
      have hsv := hrow _ _ hlk
      obtain ⟨s1, s2, s3⟩ := sd
      cases og with
      | none =>
        rw [hon, if_neg (by simp [onO]), List.append_nil] at e1
        as_aux_lemma =>
          repeat' (first | ((with_reducible apply c_cond_t); exact rfl; exact decide_eq_true (by omega)) | ((with_reducible apply o_ldPV (l := [.int .i64 q0, .int .i64 q1, .int .i64 q2, .int .i64 q3, str q4, str q5, .int .i64 q6, .int .i64 q7])); infer_instance; infer_instance; exact rfl; (intro w' hw' j' v' hj'; exact SV.cell (hps.keep hw' (by exact aO_)) hx hj'); exact rfl; exact rfl) | ((first | ((with_reducible apply o_call_pure (f := 13)); exact rfl) | ((with_reducible apply q_call_pure (f := 13)); exact rfl; kernel_rfl; exact rfl; exact sJ_)); exact eV_; exact (fun w _ => numb_calls (⟨q0, q1, q2, q3, q4, q5, q6, q7⟩ : Ref.Pt) w)) | ((with_reducible apply o_lookM_in (κ := kA) (ν := sdV) (l := its) (k := (q1, q2)) (v := (s1, s2, s3))); infer_instance; infer_instance; exact rfl; exact rfl; exact kN_; exact hin; exact hlk; exact rfl) | ((first | ((with_reducible apply o_call_pure (f := 14)); exact rfl) | ((with_reducible apply q_call_pure (f := 14)); exact rfl; kernel_rfl; exact rfl; exact sJ_)); exact eV_; exact (fun w hw => first_is hnb hfd w (hsv _ _ _ _ (by exact rL_) hw) (hw.at (by exact aT_)))) | ((with_reducible first | apply o_move | apply o_assign | apply o_faddr0); exact rfl; exact rfl) | ((with_reducible apply gdo_load); first | refine wo_load (h := ?_) | refine wo_loadAll (h := ?_) | refine wo_loadC (h := ?_) | refine wo_ldV (h := ?_)) | ((with_reducible first | apply o_lss | apply o_eql | apply o_extract); exact rfl; exact rfl; exact rfl) | ((with_reducible apply o_add); exact rfl; exact rfl; exact rfl; (constructor <;> omega)) | ((with_reducible apply o_pick_f); exact rfl; exact fF_; exact rfl; exact rfl) | ((with_reducible first | apply o_alloc | apply o_makeMap0); exact rfl; intro _) | ((with_reducible apply gdo_store); first | refine wo_store1 (h := ?_) | refine wo_storeA (h := ?_)) | ((with_reducible apply gdo_build); first | refine wo_build (h := ?_) | refine wo_buildA (h := ?_)) | ((with_reducible apply gdo_makeFunc); refine wo_func (h := ?_)) | ((with_reducible apply o_idx); infer_instance; infer_instance; exact rfl; exact rfl; (first | exact rfl | omega); exact rfl; (first | assumption | omega | decide)) | ((with_reducible apply g_skip); exact rfl; exact gG_; exact rfl) | ((with_reducible first | apply c_seq | apply c_block | apply c_region | apply c_nil | apply c_ret | apply c_exit | apply c_skip)) | ((with_reducible apply c_cond_f); exact rfl; exact fF_) | ((with_reducible first | apply e_then | apply e_then_ret | apply e_then_exit | apply e_in | apply e_in_ret | apply e_in_same)))
          refine l_again (i + 1, (ao, co), NO) ⟨by dsimp only; omega, by dsimp only; rw [e1]; exact hO⟩ (by dsimp only; omega) ?_ ?_
          · (try dsimp only); rw [e1]; exact fS_
          · exact hS_
      | some g =>
        obtain ⟨g0, g1, g2, g3, g4, g5, g6⟩ := g
        rw [onO] at hon
        dsimp only at hon
        by_cases hr : g6 = route
        · rw [hon, if_pos (decide_eq_true hr)] at e1
          as_aux_lemma =>
            repeat' (first | ((with_reducible apply c_cond_t); exact rfl; exact decide_eq_true (by omega)) | ((with_reducible apply o_ldPV (l := [.int .i64 q0, .int .i64 q1, .int .i64 q2, .int .i64 q3, str q4, str q5, .int .i64 q6, .int .i64 q7])); infer_instance; infer_instance; exact rfl; (intro w' hw' j' v' hj'; exact SV.cell (hps.keep hw' (by exact aO_)) hx hj'); exact rfl; exact rfl) | ((first | ((with_reducible apply o_call_pure (f := 13)); exact rfl) | ((with_reducible apply q_call_pure (f := 13)); exact rfl; kernel_rfl; exact rfl; exact sJ_)); exact eV_; exact (fun w _ => numb_calls (⟨q0, q1, q2, q3, q4, q5, q6, q7⟩ : Ref.Pt) w)) | ((with_reducible apply o_lookM_in (κ := kA) (ν := sdV) (l := its) (k := (q1, q2)) (v := (s1, s2, s3))); infer_instance; infer_instance; exact rfl; exact rfl; exact kN_; exact hin; exact hlk; exact rfl) | ((first | ((with_reducible apply o_call_pure (f := 14)); exact rfl) | ((with_reducible apply q_call_pure (f := 14)); exact rfl; kernel_rfl; exact rfl; exact sJ_)); exact eV_; exact (fun w hw => first_is hnb hfd w (hsv _ _ _ _ (by exact rL_) hw) (hw.at (by exact aT_)))) | (apply o_appH (enc := encPt) (ys := [((⟨q0, q1, q2, q3, q4, q5, q6, q7⟩ : Ref.Pt))]); infer_instance; infer_instance; infer_instance; exact rfl; exact encPt_len; exact encPt_one; exact rfl; exact rfl; exact rfl; assumption; exact rL_; (exact fun w hw => SV.lit [((⟨q0, q1, q2, q3, q4, q5, q6, q7⟩ : Ref.Pt))] encPt_len hw (by exact aT_) rfl rfl (by decide)); (first | decide | (constructor <;> (try simp only [List.length_cons, List.length_nil]) <;> omega) | (constructor <;> simp <;> omega)); intro a_ cp_ N_ hO_; have oN_ := hO_.own; (try simp only [List.nil_append, List.append_assoc] at hO_); (try simp only [List.append_eq, List.append_assoc, List.cons_append, List.nil_append])) | ((with_reducible first | apply o_move | apply o_assign | apply o_faddr0); exact rfl; exact rfl) | ((with_reducible apply gdo_load); first | refine wo_load (h := ?_) | refine wo_loadAll (h := ?_) | refine wo_loadC (h := ?_) | refine wo_ldV (h := ?_)) | ((with_reducible first | apply o_lss | apply o_eql | apply o_extract); exact rfl; exact rfl; exact rfl) | ((with_reducible apply o_add); exact rfl; exact rfl; exact rfl; (constructor <;> omega)) | ((with_reducible apply o_pick_t); exact rfl; exact tT_; exact rfl; exact rfl) | ((with_reducible first | apply o_alloc | apply o_makeMap0); exact rfl; intro _) | ((with_reducible apply gdo_store); first | refine wo_store1 (h := ?_) | refine wo_storeA (h := ?_)) | ((with_reducible apply gdo_build); first | refine wo_build (h := ?_) | refine wo_buildA (h := ?_)) | ((with_reducible apply gdo_makeFunc); refine wo_func (h := ?_)) | ((with_reducible apply gdo_buildSlice); refine wo_buildSlice (h := fun _ => ?_)) | ((with_reducible apply o_idx); infer_instance; infer_instance; exact rfl; exact rfl; (first | exact rfl | omega); exact rfl; (first | assumption | omega | decide)) | ((with_reducible first | apply g_run); exact rfl; exact gG_) | ((with_reducible first | apply c_seq | apply c_block | apply c_region | apply c_nil | apply c_ret | apply c_exit | apply c_skip)) | ((with_reducible first | apply e_then | apply e_then_ret | apply e_then_exit | apply e_in | apply e_in_ret | apply e_in_same)))
            rw [← e1] at hO_ ⊢
            refine l_again (i + 1, (a_, cp_), N_) ⟨by dsimp only; omega, hO_⟩ (by dsimp only; omega) ?_ ?_
            · exact fS_
            · exact hS_
        · rw [hon, if_neg (by simp [hr]), List.append_nil] at e1
          as_aux_lemma =>
            repeat' (first | ((with_reducible apply c_cond_t); exact rfl; exact decide_eq_true (by omega)) | ((with_reducible apply c_cond_f); exact rfl; exact decide_eq_false (by omega)) | ((with_reducible apply o_ldPV (l := [.int .i64 q0, .int .i64 q1, .int .i64 q2, .int .i64 q3, str q4, str q5, .int .i64 q6, .int .i64 q7])); infer_instance; infer_instance; exact rfl; (intro w' hw' j' v' hj'; exact SV.cell (hps.keep hw' (by exact aO_)) hx hj'); exact rfl; exact rfl) | ((first | ((with_reducible apply o_call_pure (f := 13)); exact rfl) | ((with_reducible apply q_call_pure (f := 13)); exact rfl; kernel_rfl; exact rfl; exact sJ_)); exact eV_; exact (fun w _ => numb_calls (⟨q0, q1, q2, q3, q4, q5, q6, q7⟩ : Ref.Pt) w)) | ((with_reducible apply o_lookM_in (κ := kA) (ν := sdV) (l := its) (k := (q1, q2)) (v := (s1, s2, s3))); infer_instance; infer_instance; exact rfl; exact rfl; exact kN_; exact hin; exact hlk; exact rfl) | ((first | ((with_reducible apply o_call_pure (f := 14)); exact rfl) | ((with_reducible apply q_call_pure (f := 14)); exact rfl; kernel_rfl; exact rfl; exact sJ_)); exact eV_; exact (fun w hw => first_is hnb hfd w (hsv _ _ _ _ (by exact rL_) hw) (hw.at (by exact aT_)))) | ((with_reducible first | apply o_move | apply o_assign | apply o_faddr0); exact rfl; exact rfl) | ((with_reducible apply gdo_load); first | refine wo_load (h := ?_) | refine wo_loadAll (h := ?_) | refine wo_loadC (h := ?_) | refine wo_ldV (h := ?_)) | ((with_reducible first | apply o_lss | apply o_eql | apply o_extract); exact rfl; exact rfl; exact rfl) | ((with_reducible apply o_add); exact rfl; exact rfl; exact rfl; (constructor <;> omega)) | ((with_reducible apply o_pick_t); exact rfl; exact tT_; exact rfl; exact rfl) | ((with_reducible first | apply o_alloc | apply o_makeMap0); exact rfl; intro _) | ((with_reducible apply gdo_store); first | refine wo_store1 (h := ?_) | refine wo_storeA (h := ?_)) | ((with_reducible apply gdo_build); first | refine wo_build (h := ?_) | refine wo_buildA (h := ?_)) | ((with_reducible apply gdo_makeFunc); refine wo_func (h := ?_)) | ((with_reducible apply o_idx); infer_instance; infer_instance; exact rfl; exact rfl; (first | exact rfl | omega); exact rfl; (first | assumption | omega | decide)) | ((with_reducible first | apply g_run); exact rfl; exact gG_) | ((with_reducible first | apply c_seq | apply c_block | apply c_region | apply c_nil | apply c_ret | apply c_exit | apply c_skip)) | ((with_reducible first | apply e_then | apply e_then_ret | apply e_then_exit | apply e_in | apply e_in_ret | apply e_in_same)))
            refine l_again (i + 1, (ao, co), NO) ⟨by dsimp only; omega, by dsimp only; rw [e1]; exact hO⟩ (by dsimp only; omega) ?_ ?_
            · (try dsimp only); rw [e1]; exact fS_
            · exact hS_
  obtain rfl : i = ps.length := by omega
  rw [List.take_length] at hO hsl ⊢
  have hAs := hAl.stops rs route
  have hrf : Ref.routeF rs ps route = (Ref.stopsOf rs ps route).map Ref.Pt.id := rfl
  rw [hrf]
  have hls := hsl
  generalize Ref.stopsOf rs ps route = S at hO hsl hAs hls ⊢
  clear hrow hrow0 hlt
  repeat' (first | ((with_reducible apply c_cond_f); exact rfl; exact decide_eq_false (by omega)) | ((first | ((with_reducible apply o_call_pure (f := 17)); exact rfl) | ((with_reducible apply q_call_pure (f := 17)); exact rfl; kernel_rfl; exact rfl; exact sJ_)); exact eV_; exact (fun w hw => sorts_calls hAs hls w (hO.sv encPt_len (by exact rL_) hw))) | ((with_reducible first | apply o_move | apply o_assign | apply o_faddr0); exact rfl; exact rfl) | ((with_reducible first | apply o_lss | apply o_eql | apply o_extract); exact rfl; exact rfl; exact rfl) | ((with_reducible apply o_len); infer_instance; exact rfl; exact rfl) | ((with_reducible first | apply c_seq | apply c_block | apply c_region | apply c_nil | apply c_ret | apply c_exit | apply c_skip)) | ((with_reducible first | apply e_then | apply e_then_ret | apply e_then_exit | apply e_in | apply e_in_ret | apply e_in_same)))
  apply c_loop (σ := Nat × (Option Addr × Nat) × List Ent) (Fs := fun t => [(77, .int .i64 t.1), (76, .int .i64 S.length), (75, .slice ao S.length co), (15, .slice t.2.1.1 ((S.take t.1).map Ref.Pt.id).length t.2.1.2)])
    (Ls := fun t => (t.2.2 ++ (NO ++ [])))
    (I := fun t => t.1 ≤ S.length ∧ OW 3 1 encI (.slice t.2.1.1 ((S.take t.1).map Ref.Pt.id).length t.2.1.2) ((S.take t.1).map Ref.Pt.id) t.2.2)
    (μ := fun t => S.length - t.1) (s0 := (0, (none, 0), []))
  · exact ⟨Nat.zero_le _, OW.nil⟩
  · exact fS_
  · (try dsimp only); simp only [List.nil_append]; exact hS_
  rintro ⟨i, ⟨ai, ci⟩, NI⟩ ⟨hi, hOI⟩
  dsimp only at hi hOI ⊢
  have oI := hOI.own
  have hil : ((S.take i).map Ref.Pt.id).length ≤ 60 := by rw [List.length_map, List.length_take]; omega
  by_cases hlt : i < S.length
  · obtain ⟨⟨q0, q1, q2, q3, q4, q5, q6, q7⟩, hx⟩ : ∃ s, S[i]? = some s := ⟨_, List.getElem?_eq_getElem hlt⟩
    have e1 : (S.take (i + 1)).map Ref.Pt.id = (S.take i).map Ref.Pt.id ++ [q0] := by rw [take_snoc hx, List.map_append]; rfl
    refine st_know (fun w' hw' => SV.ptr (hO.sv encPt_len (by exact rL_) hw') hx) ?_
    rintro ⟨be, oe, rfl⟩
    as_aux_lemma =>
      repeat' (first | ((with_reducible apply c_cond_t); exact rfl; exact decide_eq_true (by omega)) | ((with_reducible apply o_ldPV (l := [.int .i64 q0, .int .i64 q1, .int .i64 q2, .int .i64 q3, str q4, str q5, .int .i64 q6, .int .i64 q7])); infer_instance; infer_instance; exact rfl; (intro w' hw' j' v' hj'; exact SV.cell (hO.sv encPt_len (by exact rL_) hw') hx hj'); exact rfl; exact rfl) | (apply o_appH (enc := encI) (ys := [(q0)]); infer_instance; infer_instance; infer_instance; exact rfl; exact encI_len; exact encI_one; exact rfl; exact rfl; exact rfl; assumption; exact rL_; (exact fun w hw => SV.lit [(q0)] encI_len hw (by exact aT_) rfl rfl (by decide)); (first | decide | (constructor <;> (try simp only [List.length_cons, List.length_nil]) <;> omega) | (constructor <;> simp <;> omega)); intro a_ cp_ N_ hO_; have oN_ := hO_.own; (try simp only [List.nil_append, List.append_assoc] at hO_); (try simp only [List.append_eq, List.append_assoc, List.cons_append, List.nil_append])) | ((with_reducible first | apply o_move | apply o_assign | apply o_faddr0); exact rfl; exact rfl) | ((with_reducible apply gdo_load); first | refine wo_load (h := ?_) | refine wo_loadAll (h := ?_) | refine wo_loadC (h := ?_) | refine wo_ldV (h := ?_)) | ((with_reducible first | apply o_lss | apply o_eql | apply o_extract); exact rfl; exact rfl; exact rfl) | ((with_reducible apply o_add); exact rfl; exact rfl; exact rfl; (constructor <;> omega)) | ((with_reducible first | apply o_alloc | apply o_makeMap0); exact rfl; intro _) | ((with_reducible apply gdo_store); first | refine wo_store1 (h := ?_) | refine wo_storeA (h := ?_)) | ((with_reducible apply gdo_buildSlice); refine wo_buildSlice (h := fun _ => ?_)) | ((with_reducible apply o_idx); infer_instance; infer_instance; exact rfl; exact rfl; (first | exact rfl | omega); exact rfl; (first | assumption | omega | decide)) | ((with_reducible first | apply c_seq | apply c_block | apply c_region | apply c_nil | apply c_ret | apply c_exit | apply c_skip)) | ((with_reducible first | apply e_then | apply e_then_ret | apply e_then_exit | apply e_in | apply e_in_ret | apply e_in_same)))
      rw [← e1] at hO_ ⊢
      refine l_again (i + 1, (a_, cp_), N_) ⟨by dsimp only; omega, hO_⟩ (by dsimp only; omega) ?_ ?_
      · exact fS_
      · exact hS_
  obtain rfl : i = S.length := by omega
  rw [List.take_length] at hOI hil ⊢
  repeat' (first | ((with_reducible apply c_cond_f); exact rfl; exact decide_eq_false (by omega)) | ((with_reducible first | apply o_move | apply o_assign | apply o_faddr0); exact rfl; exact rfl) | ((with_reducible first | apply o_lss | apply o_eql | apply o_extract); exact rfl; exact rfl; exact rfl) | ((with_reducible first | apply c_seq | apply c_block | apply c_region | apply c_nil | apply c_ret | apply c_exit | apply c_skip)) | ((with_reducible first | apply e_then | apply e_then_ret | apply e_then_exit | apply e_in | apply e_in_ret | apply e_in_same)))
  apply r_body; apply res1 Try.results6; exact rV_; intro w' hw
  exact ⟨_, NI, rfl, ⟨ai, ci, rfl, hOI⟩, hw.sub (by exact hS_), oI⟩
end Go.Proofs.Ythcoaljmgkhglaa
namespace Go.Sx
open Go Go.RowKit
section
variable {r : Option Nat} {P : Program} {n : Nat} {D : List Deferred} {w0 : World} {F : List (Nat × Value)} {L : List Ent} {Q : Exit → Act → World → Prop} {ops : Array Oper}
variable {d : Tmp} {ty : TypeId} {pos : String} {af : Array Edge} {rest : List Oper}
/-- A small number as a byte. -/
theorem o_toB {x : Operand} {m : Int} {s t : TypeId} {ds : TypeDesc} (hS : TU P s ds) (hT : TU P t (.int .u8)) (hx : ev F x = some (.int .i64 m)) (hr : 0 ≤ m ∧ m ≤ 255) (hd : Nat.ble (d + 1) n = true)
    (h : St n D w0 ((d, .int .u8 m) :: F) L (WL r P ops Q rest)) : St n D w0 F L (WL r P ops Q (⟨some d, .convert s t x, ty, pos, af, none⟩ :: rest)) :=
  o_conv (ds := ds) hx hd (by rw [IntWalk.u8_in _ hr]; exact h)
end
theorem byte_cell {w0 w : World} {L : List Ent} {b : Nat} {T : TypeId} {v : Int} {bb : UInt8} (hw : Rep w0 w L) (h : At L b (Ce [.int .u8 v] T)) (hb : (bb.toNat : Int) = v) : ∀ j (hj : j < [bb].length), w.cell? ((⟨b, 0, none⟩ : Addr).add j) = some (.int .u8 ([bb][j].toNat : Int)) := fun j hj => by
  obtain rfl : j = 0 := by simpa using hj
  have := hw.at h
  subst hb
  simp [World.cell?, Addr.add, this]
theorem byte_of {v : Int} (h : 0 ≤ v ∧ v ≤ 255) : ∃ bb : UInt8, (bb.toNat : Int) = v := ⟨UInt8.ofNat v.toNat, by simp; omega⟩
end Go.Sx
namespace Go.Sx.Ref
def codeF (c k : Int) : List UInt8 := (if c = 1 then [49, 50, 51, 52] else if c = 2 then [75, 49, 65, 48, 66] else [51, 48, 48]) ++ [UInt8.ofNat (48 + k % 10).toNat]
end Go.Sx.Ref
namespace Go.Proofs.Ythcoaljmgkhglaa
open Go Go.Sx Go.RowKit
attribute [local irreducible] WL WC WQ WR WB WF QB St Exit.then Exit.inBlock Exit.noGoto bodyPost roundPost beginK YR RG BM Calls B AgainD MeetD
/-! ## numbers again from the beginning, codes -/
theorem at_calls {v : Value} {l : List UInt8} (i : Nat) (hi : i ≤ 1000000) (w : World) (h : SV w 1 encB v l) : Calls Try.prog 11 #[v, .int .i64 i] w fun e w' => e = .returned (.int .i64 (Ref.nb l i)) ∧ Below w.heap.size w w' := by
  obtain ⟨a0, c0, rfl, hc, hop⟩ := h.open
  unfold Ref.nb
  by_cases h0 : l.length = 0
  · rw [if_pos h0]
    refine f_enter2 Try.func11 rfl Try.ntmps11 rfl (Rep.start w) ?_
    repeat' (first | ((with_reducible apply c_cond_t); exact rfl; exact decide_eq_true (by omega)) | ((with_reducible first | apply o_move | apply o_assign | apply o_conv); exact rfl; exact rfl) | ((with_reducible apply o_eql); exact rfl; exact rfl; exact rfl) | ((with_reducible apply o_len); infer_instance; exact rfl; exact rfl) | ((with_reducible first | apply c_seq | apply c_block | apply c_region | apply c_nil | apply c_ret | apply c_exit | apply c_skip)) | ((with_reducible first | apply e_then | apply e_then_ret | apply e_then_exit | apply e_in | apply e_in_ret | apply e_in_same)))
    apply r_body; apply res1 Try.results11; exact rV_; intro w' hw
    exact ⟨rfl, hw.below (by simp)⟩
  · rw [if_neg h0]
    obtain ⟨j, hj⟩ : ∃ j, i % l.length = j := ⟨_, rfl⟩
    have hlt : j < l.length := by rw [← hj]; exact Nat.mod_lt _ (by omega)
    rw [hj]
    have hji : (i : Int) % (l.length : Int) = (j : Int) := by omega
    obtain ⟨y, hx⟩ : ∃ y, l[j]? = some y := ⟨_, List.getElem?_eq_getElem hlt⟩
    have hy : l.getD j 0 = y := by simp [List.getD_eq_getElem?_getD, hx]
    rw [hy]
    obtain ⟨b, off, cc, e, fz, rfl, hk, hp⟩ := hop (by omega)
    have g1 : cc[off + j * 1]? = some (.int .u8 (y.toNat : Int)) := hp.one hx rfl
    have := y.toNat_lt
    refine f_enter2 Try.func11 rfl Try.ntmps11 rfl (Rep.start w) ?_
    repeat' (first | ((with_reducible apply c_cond_f); exact rfl; exact decide_eq_false (by omega)) | ((with_reducible apply o_remE (v := (j : Int))); exact rfl; exact rfl; exact hji; omega; exact rfl) | ((with_reducible apply o_conv8); infer_instance; infer_instance; exact rfl; (constructor <;> omega); exact rfl) | ((with_reducible first | apply o_move | apply o_assign | apply o_conv); exact rfl; exact rfl) | ((with_reducible apply gdo_load); first | refine wo_load (h := ?_) | refine wo_loadAll (h := ?_) | refine wo_loadC (h := ?_) | refine wo_ldV (h := ?_)) | ((with_reducible apply o_eql); exact rfl; exact rfl; exact rfl) | ((with_reducible apply o_len); infer_instance; exact rfl; exact rfl) | ((with_reducible apply o_idx); infer_instance; infer_instance; exact rfl; exact rfl; (first | exact rfl | omega); exact rfl; (first | assumption | omega | decide)) | ((with_reducible first | apply c_seq | apply c_block | apply c_region | apply c_nil | apply c_ret | apply c_exit | apply c_skip)) | ((with_reducible first | apply e_then | apply e_then_ret | apply e_then_exit | apply e_in | apply e_in_ret | apply e_in_same)))
    apply r_body; apply res1 Try.results11; exact rV_; intro w' hw
    exact ⟨rfl, hw.below (by simp)⟩
theorem code_calls (c k : Int) (hk : 0 ≤ k ∧ k ≤ 1000000) (w : World) : Calls Try.prog 12 #[.int .u8 c, .int .i64 k] w fun e w' => e = .returned (str (Ref.codeF c k)) ∧ Below w.heap.size w w' := by
  obtain ⟨dd, hdd⟩ : ∃ dd, k % 10 = dd := ⟨_, rfl⟩
  have hd9 : 0 ≤ dd ∧ dd ≤ 9 := by omega
  have hbb : ((UInt8.ofNat (48 + k % 10).toNat).toNat : Int) = 48 + dd := by rw [hdd]; simp; omega
  unfold Ref.codeF
  generalize UInt8.ofNat (48 + k % 10).toNat = bb at hbb ⊢
  by_cases h1 : c = 1
  · rw [if_pos h1]
    refine f_enter2 Try.func12 rfl Try.ntmps12 rfl (Rep.start w) ?_
    repeat' (first | ((with_reducible apply c_cond_t); exact rfl; exact decide_eq_true (by omega)) | ((with_reducible apply o_remE (v := dd)); exact rfl; exact rfl; exact hdd; omega; exact rfl) | ((with_reducible apply o_toB); infer_instance; infer_instance; exact rfl; omega; exact rfl) | ((with_reducible apply o_bytes_t (l := [bb])); infer_instance; infer_instance; infer_instance; exact rfl; exact rfl; (exact fun w hw => byte_cell hw (by exact aT_) hbb); exact rfl) | ((with_reducible apply o_cat_t (l := [49, 50, 51, 52]) (m := [bb])); infer_instance; exact rfl; exact rfl; (simp only [List.length_cons, List.length_nil]; omega); exact rfl) | ((with_reducible first | apply o_move | apply o_assign | apply o_conv); exact rfl; exact rfl) | ((with_reducible apply o_eql); exact rfl; exact rfl; exact rfl) | ((with_reducible apply o_add8); exact rfl; exact rfl; exact rfl; (constructor <;> omega)) | ((with_reducible apply gdo_buildSlice); refine wo_buildSlice (h := fun _ => ?_)) | ((with_reducible first | apply c_seq | apply c_block | apply c_region | apply c_nil | apply c_ret | apply c_exit | apply c_skip)) | ((with_reducible first | apply e_then | apply e_then_ret | apply e_then_exit | apply e_in | apply e_in_ret | apply e_in_same)))
    apply r_body; apply res1 Try.results12; exact rV_; intro w' hw
    exact ⟨rfl, hw.below (by simp)⟩
  rw [if_neg h1]
  by_cases h2 : c = 2
  · rw [if_pos h2]
    refine f_enter2 Try.func12 rfl Try.ntmps12 rfl (Rep.start w) ?_
    repeat' (first | ((with_reducible apply c_cond_t); exact rfl; exact decide_eq_true (by omega)) | ((with_reducible apply c_cond_f); exact rfl; exact decide_eq_false (by omega)) | ((with_reducible apply o_remE (v := dd)); exact rfl; exact rfl; exact hdd; omega; exact rfl) | ((with_reducible apply o_toB); infer_instance; infer_instance; exact rfl; omega; exact rfl) | ((with_reducible apply o_bytes_t (l := [bb])); infer_instance; infer_instance; infer_instance; exact rfl; exact rfl; (exact fun w hw => byte_cell hw (by exact aT_) hbb); exact rfl) | ((with_reducible apply o_cat_t (l := [75, 49, 65, 48, 66]) (m := [bb])); infer_instance; exact rfl; exact rfl; (simp only [List.length_cons, List.length_nil]; omega); exact rfl) | ((with_reducible first | apply o_move | apply o_assign | apply o_conv); exact rfl; exact rfl) | ((with_reducible apply o_eql); exact rfl; exact rfl; exact rfl) | ((with_reducible apply o_add8); exact rfl; exact rfl; exact rfl; (constructor <;> omega)) | ((with_reducible apply gdo_buildSlice); refine wo_buildSlice (h := fun _ => ?_)) | ((with_reducible first | apply c_seq | apply c_block | apply c_region | apply c_nil | apply c_ret | apply c_exit | apply c_skip)) | ((with_reducible first | apply e_then | apply e_then_ret | apply e_then_exit | apply e_in | apply e_in_ret | apply e_in_same)))
    apply r_body; apply res1 Try.results12; exact rV_; intro w' hw
    exact ⟨rfl, hw.below (by simp)⟩
  · rw [if_neg h2]
    refine f_enter2 Try.func12 rfl Try.ntmps12 rfl (Rep.start w) ?_
    repeat' (first | ((with_reducible apply c_cond_f); exact rfl; exact decide_eq_false (by omega)) | ((with_reducible apply o_remE (v := dd)); exact rfl; exact rfl; exact hdd; omega; exact rfl) | ((with_reducible apply o_toB); infer_instance; infer_instance; exact rfl; omega; exact rfl) | ((with_reducible apply o_bytes_t (l := [bb])); infer_instance; infer_instance; infer_instance; exact rfl; exact rfl; (exact fun w hw => byte_cell hw (by exact aT_) hbb); exact rfl) | ((with_reducible apply o_cat_t (l := [51, 48, 48]) (m := [bb])); infer_instance; exact rfl; exact rfl; (simp only [List.length_cons, List.length_nil]; omega); exact rfl) | ((with_reducible first | apply o_move | apply o_assign | apply o_conv); exact rfl; exact rfl) | ((with_reducible apply o_eql); exact rfl; exact rfl; exact rfl) | ((with_reducible apply o_add8); exact rfl; exact rfl; exact rfl; (constructor <;> omega)) | ((with_reducible apply gdo_buildSlice); refine wo_buildSlice (h := fun _ => ?_)) | ((with_reducible first | apply c_seq | apply c_block | apply c_region | apply c_nil | apply c_ret | apply c_exit | apply c_skip)) | ((with_reducible first | apply e_then | apply e_then_ret | apply e_then_exit | apply e_in | apply e_in_ret | apply e_in_same)))
    apply r_body; apply res1 Try.results12; exact rV_; intro w' hw
    exact ⟨rfl, hw.below (by simp)⟩
end Go.Proofs.Ythcoaljmgkhglaa
