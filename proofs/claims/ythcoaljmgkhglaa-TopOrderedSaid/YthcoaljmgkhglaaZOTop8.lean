/- A part of the proofs of this seat: a small logic of walks, plain laws, and what some of the program's functions compute, shown by walks through their code. Conditions: the hypotheses that each theorem names. -/
import Derived.Test.YthcoaljmgkhglaaZOTop3
import Derived.Test.YthcoaljmgkhglaaZOTop7
import Derived.Test.YthcoaljmgkhglaaZOTop2
set_option linter.unusedSimpArgs false
set_option linter.unusedVariables false
set_option linter.unusedSectionVars false
namespace Go.Proofs.Ythcoaljmgkhglaa
open Go Go.Sx Go.RowKit
section
variable {P : Program} {n : Nat} {D : List Deferred} {w0 : World} {F : List (Nat × Value)} {L L0 : List Ent} {Q : Exit → Act → World → Prop} {r : Option Nat} {ops : Array Oper}
variable {d : Tmp} {ty : TypeId} {pos : String} {af : Array Edge} {rest : List Oper}
theorem o_storeT {α : Type} {enc : α → List Value} {t e : TypeId} {k kk m o : Nat} {x y : Operand} {b p : Nat} {v : Value} {xs ys : List α} {z : α} (z' : α) (hys : xs.set m z' = ys) {s vs : List Value} {L' : List Ent} (hS : TS P t kk) (hx : ev F x = some (.pointer (some ⟨b, p, none⟩))) (hy : ev F y = some v)
    (hat : At L b (Ce (xs.flatMap enc ++ s) e)) (hz : xs[m]? = some z) (henc : ∀ x, (enc x).length = k) (hp : p = m * k + o) (hvs : v.cells = vs.toArray) (hlen : vs.length = kk) (h1 : ∀ u ∈ vs, u.oneCell' = true) (ho : o + vs.length ≤ k)
    (he : enc z' = (enc z).take o ++ vs ++ (enc z).drop (o + vs.length)) (hu : Upd L b (Ce (xs.flatMap enc ++ s) e) (Ce (ys.flatMap enc ++ s) e) L')
    (h : St n D w0 F L' (WL r P ops Q rest)) :
    St n D w0 F L (WL r P ops Q (⟨none, .store t x y, ty, pos, af, none⟩ :: rest)) := by
  subst hys
  exact o_storeS z' hS hx hy hat hz henc hp hvs hlen h1 ho he hu h
end
attribute [local irreducible] WL WC WQ WR St Exit.then Exit.inBlock Exit.noGoto bodyPost roundPost beginK YR RG BM Calls B AgainD MeetD
/-! ## machines that are played -/
def encE (e : Srt.Ev) : List Value := [.int .u8 e.kind, .int .i64 e.item, .int .i64 e.st]
theorem encE_len : ∀ x, (encE x).length = 3 := fun _ => rfl
theorem encE_one : ∀ x, (encE x).all (·.oneCell') = true := fun _ => rfl
def encF (f : Srt.Fd) : List Value := [.int .i64 f.item, .int .i64 f.st]
theorem encF_len : ∀ x, (encF x).length = 2 := fun _ => rfl
theorem encF_one : ∀ x, (encF x).all (·.oneCell') = true := fun _ => rfl
/-- What lies where a machine is played: its block b, and its rows. -/
def mach (n b : Nat) (cv : Value) (m : Srt.M) (G : List Ent) : Prop := ∃ bs bw bh ao co ar cr ae ce ss ML NO NR NE,
  G = ⟨b, Ce [slc bs n, slc bw n, .slice ao m.over.length co, .slice ar m.rej.length cr, .slice ae m.evs.length ce, cv, slc bh n, .int .i64 m.left] 117, true⟩ :: ⟨bs, Ce (ss.flatMap encS ++ []) 34, true⟩ :: ⟨bw, Ce (m.swept.flatMap encI ++ []) 3, true⟩ :: ⟨bh, Ce (m.held.flatMap encI ++ []) 3, true⟩ :: (ML ++ (NO ++ (NR ++ (NE ++ [])))) ∧
  LL 3 1 encI ss m.stackers ML ∧ OW 3 1 encI (.slice ao m.over.length co) m.over NO ∧ OW 3 1 encI (.slice ar m.rej.length cr) m.rej NR ∧ OW 123 3 encE (.slice ae m.evs.length ce) m.evs NE ∧ Srt.Sz n m
theorem mach.own {n b : Nat} {cv : Value} {m : Srt.M} {G : List Ent} (h : mach n b cv m G) : ∀ x ∈ G, x.own = true := by
  obtain ⟨bs, bw, bh, ao, co, ar, cr, ae, ce, ss, ML, NO, NR, NE, rfl, h1, h2, h3, h4, _⟩ := h
  exact show AO _ from .cons (.cons (.cons (.cons (.app h1.own (.app h2.own (.app h3.own (.app h4.own .nil)))))))
theorem U_nil_rows (n : Nat) : (List.replicate n [Value.slice none 0 0]).flatten = (List.replicate n ((none, 0, 0) : SD)).flatMap encS ++ [] := by
  rw [List.append_nil, List.flatMap_def, List.map_replicate]
  rfl
theorem U_nils {α : Type} {E : TypeId} {k : Nat} {enc : α → List Value} : ∀ n : Nat, LL E k enc (List.replicate n ((none, 0, 0) : SD)) (List.replicate n []) []
  | 0 => LL.nil
  | n + 1 => by
    rw [List.replicate_succ, List.replicate_succ]
    exact LL.cons (s := (none, 0, 0)) (N := []) OW.nil (U_nils n)
set_option maxHeartbeats 4000000 in
theorem new_calls {cv : Value} {caps : List Int} {s : Int} (w : World) (h : SV w 1 encI cv caps) (hn : caps.length ≤ 64) : Calls Try.prog 34 #[cv, .int .i64 s] w fun e w' => ∃ v N, e = .returned v ∧ (∃ b, v = ptr b ∧ mach caps.length b cv (Srt.M.new caps.length s) N ∧ ∀ x ∈ N, x.own = true) ∧ Rep w w' N ∧ ∀ x ∈ N, x.own = true := by
  obtain ⟨a0, ca, rfl, hca, hop⟩ := h.open
  refine f_enter2 Try.func34 rfl Try.ntmps34 rfl (Rep.start w) ?_
  repeat' (first | ((with_reducible first | apply o_move | apply o_assign); exact rfl; exact rfl) | ((with_reducible apply o_len); infer_instance; exact rfl; exact rfl) | ((with_reducible first | apply c_seq | apply c_block | apply c_region | apply c_nil | apply c_ret | apply c_exit | apply c_skip)) | ((with_reducible first | apply e_then | apply e_then_ret | apply e_then_exit | apply e_in | apply e_in_ret | apply e_in_same)) | ((with_reducible apply c_regionD0 (id := 2) []); kernel_rfl; kernel_rfl) | ((with_reducible apply q_nil); try simp only [ents, List.cons_append, List.nil_append]) | ((with_reducible first | apply q_move | apply q_assign); exact rfl; exact rfl) | ((with_reducible apply gdq_build); first | refine wq_build (h := ?_)) | ((with_reducible apply q_box); exact rfl; exact rfl; exact rfl; intro _) | ((with_reducible apply gdq_makeSlice); refine wq_makeSlice (h := fun _ => ?_)))
  rename_i bs bw bh b
  simp only [U_nil_rows, zeros_row] at *
  apply r_body; apply res1 Try.results34; exact rV_; intro w' hw
  have hm : mach caps.length b (.slice a0 caps.length ca) (Srt.M.new caps.length s) (⟨b, Ce [slc bs caps.length, slc bw caps.length, .slice none 0 0, .slice none 0 0, .slice none 0 0, .slice a0 caps.length ca, slc bh caps.length, .int .i64 s] 117, true⟩ :: ⟨bs, Ce ((List.replicate caps.length ((none, 0, 0) : SD)).flatMap encS ++ []) 34, true⟩ :: ⟨bw, Ce ((List.replicate caps.length (0 : Int)).flatMap encI ++ []) 3, true⟩ :: ⟨bh, Ce ((List.replicate caps.length (0 : Int)).flatMap encI ++ []) 3, true⟩ :: ([] ++ ([] ++ ([] ++ ([] ++ []))))) :=
    ⟨bs, bw, bh, none, 0, none, 0, none, 0, _, [], [], [], [], rfl, U_nils _, OW.nil, OW.nil, OW.nil, Srt.Sz.new _ _⟩
  exact ⟨_, _, rfl, ⟨b, rfl, hm, hm.own⟩, hw.sub (by exact hS_), hm.own⟩
set_option maxHeartbeats 4000000 in
theorem note_calls {w0 w : World} {L0 NE : List Ent} {b ce : Nat} {ae : Option Addr} {x0 x1 x2 x3 x5 x6 x7 v : Value} {es ys : List Srt.Ev} (hO : OW 123 3 encE (.slice ae es.length ce) es NE)
    (hw : Rep w0 w (⟨b, Ce [x0, x1, x2, x3, .slice ae es.length ce, x5, x6, x7] 117, true⟩ :: (NE ++ L0))) (hsv : ∀ w', Rep w0 w' (⟨b, Ce [x0, x1, x2, x3, .slice ae es.length ce, x5, x6, x7] 117, true⟩ :: (NE ++ L0)) → SV w' 3 encE v ys) (hb : es.length ≤ 100000 ∧ ys.length ≤ 2) :
    Calls Try.prog 39 #[ptr b, v] w fun e w' => ∃ r G', e = .returned r ∧ (r = .tuple #[] ∧ ∃ a' c' N', G' = ⟨b, Ce [x0, x1, x2, x3, .slice a' (es ++ ys).length c', x5, x6, x7] 117, true⟩ :: N' ∧ OW 123 3 encE (.slice a' (es ++ ys).length c') (es ++ ys) N') ∧ Rep w0 w' (G' ++ L0) := by
  have hNE := hO.own
  refine f_enterF2 Try.func39 rfl Try.ntmps39 rfl (hw) ?_
  repeat' (first | (apply o_appH (enc := encE); infer_instance; infer_instance; infer_instance; exact rfl; exact encE_len; exact encE_one; exact rfl; exact rfl; exact rfl; assumption; exact rL_; (exact fun w hw => (hsv w hw)); (first | decide | (constructor <;> (try simp only [List.length_cons, List.length_nil]) <;> omega) | (constructor <;> simp <;> omega)); intro _ _ _ _) | ((with_reducible first | apply o_move | apply o_faddr0 | apply o_nilCheck); exact rfl; exact rfl) | ((with_reducible apply gdo_load); first | refine wo_load (h := ?_) | refine wo_loadAll (h := ?_) | refine wo_loadC (h := ?_) | refine wo_ldV (h := ?_)) | ((with_reducible apply gdo_store); first | refine wo_store1 (h := ?_) | refine wo_storeA (h := ?_)) | ((with_reducible first | apply c_seq | apply c_block | apply c_region | apply c_nil | apply c_ret | apply c_exit | apply c_skip)))
  rename_i a' c' N' hO'
  apply r_body'; apply res0 Try.results39; intro w' hw
  exact ⟨_, _, rfl, ⟨rfl, a', c', N', rfl, hO'⟩, hw.sub (by simp only [List.cons_append]; exact hS_)⟩
/-- The call of note, seen by its caller. -/
theorem o_note {n : Nat} {D : List Deferred} {w0 : World} {F : List (Nat × Value)} {L L1 L2 NE : List Ent} {Q : Exit → Act → World → Prop} {r : Option Nat} {ops : Array Oper} {d : Tmp} {ty : TypeId} {pos : String} {af : Array Edge} {rest : List Oper} {x y : Operand} {ats : Array TypeId}
    {b ce : Nat} {ae : Option Addr} {x0 x1 x2 x3 x5 x6 x7 v : Value} {es ys : List Srt.Ev} (hx : ev F x = some (ptr b)) (hy : ev F y = some v) (hd : Nat.ble (d + 1) n = true)
    (hr : Rem L ⟨b, Ce [x0, x1, x2, x3, .slice ae es.length ce, x5, x6, x7] 117, true⟩ L1) (hO : OW 123 3 encE (.slice ae es.length ce) es NE) (hr2 : RemL L1 NE L2) (hsv : ∀ w, Rep w0 w L → SV w 3 encE v ys) (hb : es.length ≤ 100000 ∧ ys.length ≤ 2)
    (h : ∀ a' c' N', OW 123 3 encE (.slice a' (es ++ ys).length c') (es ++ ys) N' → St n D w0 ((d, .tuple #[]) :: F) (⟨b, Ce [x0, x1, x2, x3, .slice a' (es ++ ys).length c', x5, x6, x7] 117, true⟩ :: (N' ++ L2)) (WL r Try.prog ops Q rest)) :
    St n D w0 F L (WL r Try.prog ops Q (⟨some d, .call ⟨.value (.func 39), #[x, y], ats⟩, ty, pos, af, none⟩ :: rest)) := by
  have hp : RemL L (⟨b, Ce [x0, x1, x2, x3, .slice ae es.length ce, x5, x6, x7] 117, true⟩ :: NE) L2 := RemL.cons hr hr2
  refine o_call_frame (f := 39) (x := .func 39) (caps := #[]) (xs := [x, y]) (vs := [ptr b, v]) (L0 := L2) (G := ⟨b, Ce [x0, x1, x2, x3, .slice ae es.length ce, x5, x6, x7] 117, true⟩ :: NE)
    (Φ := fun v G' => v = .tuple #[] ∧ ∃ a' c' N', G' = ⟨b, Ce [x0, x1, x2, x3, .slice a' (es ++ ys).length c', x5, x6, x7] 117, true⟩ :: N' ∧ OW 123 3 encE (.slice a' (es ++ ys).length c') (es ++ ys) N') rfl hd ?_ hp ?_ ?_
  · exact Evs.cons hx (Evs.cons hy Evs.nil)
  · intro w hw
    rw [Array.append_empty]
    exact note_calls hO hw (fun w' hw' => hsv w' (hw'.perm (List.Perm.symm hp))) hb
  · rintro v G' ⟨rfl, a', c', N', rfl, hO'⟩
    exact h a' c' N' hO'
end Go.Proofs.Ythcoaljmgkhglaa
namespace Go.Proofs.Ythcoaljmgkhglaa
open Go Go.Sx Go.RowKit
attribute [local irreducible] WL WC WQ WR St Exit.then Exit.inBlock Exit.noGoto bodyPost roundPost beginK YR RG BM Calls B AgainD MeetD
/-! ## one item -/
set_option maxHeartbeats 16000000 in
set_option maxRecDepth 100000 in
theorem take_calls {w0 w : World} {L0 G : List Ent} {b j : Nat} {cv : Value} {caps : List Int} {m : Srt.M} {x st : Int} (hcap : SV w0 1 encI cv caps) (hL0 : ∀ x ∈ L0, x.own = true) (hw : Rep w0 w (G ++ L0)) (hm : mach caps.length b cv m G) (hb : Srt.Bd j m) (hj : j ≤ 10000) (hf : st < caps.length) :
    Calls Try.prog 35 #[ptr b, .agg #[.int .i64 x, .int .i64 st]] w fun e w' => ∃ r G', e = .returned r ∧ (r = .tuple #[] ∧ mach caps.length b cv (Srt.takeF caps m ⟨x, st⟩) G') ∧ Rep w0 w' (G' ++ L0) := by
  obtain ⟨bs, bw, bh, ao, co, ar, cr, ae, ce, ss, ML, NO, NR, NE, rfl, hS, hO, hR, hE, hz⟩ := hm
  obtain ⟨a0, ca, rfl, hca, hop⟩ := hcap.open
  have h1 := hS.own
  have h2 := hO.own
  have h3 := hR.own
  have h4 := hE.own
  obtain ⟨zs, zw, zh⟩ := hz
  obtain ⟨b1, b2, b3, b4, b5, b6, b7⟩ := hb
  rw [← List.append_nil L0] at hw ⊢
  simp only [List.cons_append, List.append_assoc, List.nil_append] at hw
  by_cases hneg : st < 0
  · have e : Srt.takeF caps m ⟨x, st⟩ = ⟨m.stackers, m.swept, m.over, m.rej ++ [x], m.evs ++ [⟨4, x, -1⟩], m.held, m.left⟩ := by unfold Srt.takeF; rw [if_pos hneg]; rfl
    rw [e]
    refine f_enterF2 Try.func35 rfl Try.ntmps35 rfl (hw) ?_
    repeat' (first | (apply o_appH (enc := encI) (ys := [(x)]); infer_instance; infer_instance; infer_instance; exact rfl; exact encI_len; exact encI_one; exact rfl; exact rfl; exact rfl; assumption; exact rL_; (exact fun w hw => SV.lit [(x)] encI_len hw (by exact aT_) rfl rfl (by decide)); (first | decide | (constructor <;> (try simp only [List.length_cons, List.length_nil]) <;> omega) | (constructor <;> simp <;> omega)); intro a1 c1 N1 hO1; have oN1 := hO1.own) | ((with_reducible apply o_note); exact rfl; exact rfl; exact rfl; (focus (repeat (first | exact Rem.hd | apply Rem.tl | apply Rem.right))); assumption; exact rL_; (exact fun w hw => SV.lit [(⟨4, x, -1⟩ : Srt.Ev)] encE_len hw (by exact aT_) rfl rfl (by decide)); exact ⟨by omega, by simp⟩; intro a9 c9 N9 hO9; have oN9 := hO9.own) | ((with_reducible first | apply o_move | apply o_assign | apply o_faddr0 | apply o_nilCheck); exact rfl; exact rfl) | ((with_reducible apply gdo_load); first | refine wo_load (h := ?_) | refine wo_loadAll (h := ?_) | refine wo_loadC (h := ?_) | refine wo_ldV (h := ?_)) | ((with_reducible first | apply o_lss | apply o_gtr); exact rfl; exact rfl; exact rfl) | ((with_reducible apply o_box); exact rfl; exact rfl; exact rfl; intro _) | ((with_reducible apply gdo_store); first | refine wo_store1 (h := ?_) | refine wo_storeA (h := ?_)) | ((with_reducible apply gdo_build); first | refine wo_build (h := ?_) | refine wo_buildA (h := ?_)) | ((with_reducible apply gdo_buildSlice); refine wo_buildSlice (h := fun _ => ?_)) | ((with_reducible first | apply c_seq | apply c_block | apply c_region | apply c_nil | apply c_ret | apply c_exit | apply c_skip)) | ((with_reducible apply c_cond_t); exact rfl; exact tT_) | ((with_reducible first | apply e_then | apply e_then_ret | apply e_then_exit | apply e_in | apply e_in_ret | apply e_in_same)) | ((with_reducible apply c_regionD0 (id := 1) []); kernel_rfl; kernel_rfl) | ((with_reducible apply q_nil); try simp only [ents, List.cons_append, List.nil_append]) | ((with_reducible first | apply q_move | apply q_assign | apply q_faddr0); exact rfl; exact rfl) | ((with_reducible apply gdq_load); first | refine wq_load (h := ?_) | refine wq_loadAll (h := ?_) | refine wq_loadC (h := ?_)))
    apply r_body; apply res0 Try.results35; intro w' hw
    exact ⟨_, _, rfl, ⟨rfl, bs, bw, bh, ao, co, a1, c1, a9, c9, ss, ML, NO, N1, N9, rfl, hS, hO, hO1, hO9, ⟨zs, zw, zh⟩⟩, hw.sub (by simp only [List.cons_append, List.append_assoc, List.nil_append]; exact hS_)⟩
  obtain ⟨k, rfl⟩ := Int.eq_ofNat_of_zero_le (show 0 ≤ st by omega)
  have hkn : k < caps.length := by omega
  obtain ⟨c, hc⟩ : ∃ c, caps[k]? = some c := ⟨_, List.getElem?_eq_getElem hkn⟩
  obtain ⟨h, hh⟩ : ∃ h, m.held[k]? = some h := ⟨_, List.getElem?_eq_getElem (by omega)⟩
  obtain ⟨s, hs⟩ : ∃ s, m.swept[k]? = some s := ⟨_, List.getElem?_eq_getElem (by omega)⟩
  obtain ⟨xs, hxs⟩ : ∃ xs, m.stackers[k]? = some xs := ⟨_, List.getElem?_eq_getElem (by omega)⟩
  have dc : caps.getD k 0 = c := by simp [hc]
  have dh : m.held.getD k 0 = h := by simp [hh]
  have ds : m.swept.getD k 0 = s := by simp [hs]
  have dx : m.stackers.getD k [] = xs := by simp [hxs]
  have bh5 := b5 k
  have bs6 := b6 k
  have bx4 := b4 k
  rw [dh] at bh5
  rw [ds] at bs6
  rw [dx] at bx4
  have hhl : k < m.held.length := by omega
  have hsl : k < m.swept.length := by omega
  obtain ⟨bc, off, cc, ec, fz, rfl, hk, hp⟩ := hop (by omega)
  have g0 := hp.one hc rfl
  have g1 := (Pat.flat encI_len m.held []).one hh rfl
  have g2 := (Pat.flat encI_len m.swept []).one hs rfl
  obtain ⟨⟨sa, sn, sc⟩, N, M1, M2, q1, q2, rfl, q3, q4, q5⟩ := hS.at hxs
  obtain ⟨_, _, eq2, hcq, _⟩ := q2.open
  cases eq2
  have hN := q2.own
  have g3 : (ss.flatMap encS ++ ([] : List Value)).toArray[0 + k * 1]? = some (.slice sa xs.length sc) := (Pat.flat encS_len ss []).one q1 rfl
  simp only [List.append_assoc] at hw
  by_cases hlt : h < c
  · obtain ⟨H1, hH1⟩ : ∃ H1, m.held.set k (h + 1) = H1 := ⟨_, rfl⟩
    have e : Srt.takeF caps m ⟨x, k⟩ = ⟨m.stackers.set k (xs ++ [x]), m.swept, m.over, m.rej, m.evs ++ [⟨1, x, k⟩], H1, m.left⟩ := by
      unfold Srt.takeF
      simp only [Int.toNat_natCast, dc, dh]
      rw [if_neg (by omega), if_pos hlt]
      simp only [Srt.stack, Srt.note, Srt.putAt, Seq.addAt, Int.toNat_natCast, dx, dh, hH1]
    rw [e]
    refine f_enterF2 Try.func35 rfl Try.ntmps35 rfl (hw) ?_
    repeat' (first | ((with_reducible apply o_note); exact rfl; exact rfl; exact rfl; (focus (repeat (first | exact Rem.hd | apply Rem.tl | apply Rem.right))); assumption; exact rL_; (exact fun w hw => SV.lit [(⟨1, x, k⟩ : Srt.Ev)] encE_len hw (by exact aT_) rfl rfl (by decide)); exact ⟨by omega, by simp⟩; intro a9 c9 N9 hO9; have oN9 := hO9.own) | ((with_reducible apply c_regionA0 (id := 15) (specA 16 N hN [(16, appφ 3 1 encI (xs ++ [x]))])); kernel_rfl; kernel_rfl; exact rfl; exact rL_) | ((with_reducible apply q_appA (enc := encI) (xs := xs) (ys := [x]) (H := N)); infer_instance; infer_instance; infer_instance; exact rfl; exact encI_len; exact encI_one; exact rfl; exact rfl; exact rfl; exact rfl; exact sJ_; exact rfl; exact q2; (exact fun w hw => SV.lit [x] encI_len hw (by exact aT_) rfl rfl (by decide)); (constructor <;> (try simp only [List.length_cons, List.length_nil]) <;> omega); intro a' cap' N' Rr' hO' hN' hR') | ((apply q_storeS (enc := encS) (kl := 1) (m := k) (o := 0) (xs := ss) (z := (sa, _, sc)) ((a', (xs ++ [x]).length, cap') : SD)); infer_instance; exact rfl; exact rfl; exact aT_; exact q1; exact encS_len; omega; exact rfl; exact rfl; (intro u hu; simp at hu; subst hu; rfl); (exact Nat.le_refl _); exact rfl; exact uP_) | (apply o_storeT (enc := encI) (k := 1) (m := k) (o := 0) (xs := (m.held)) (h + 1) (hH1); infer_instance; exact rfl; exact rfl; exact aT_; exact (hh); exact encI_len; omega; exact rfl; exact rfl; (intro u hu; simp at hu; first | (subst hu; rfl) | (rcases hu with rfl | rfl <;> rfl) | (rcases hu with rfl | rfl | rfl <;> rfl) | (rcases hu with rfl | rfl | rfl | rfl <;> rfl)); (first | decide | exact Nat.le_refl _ | (simp only [List.length_cons, List.length_nil]; decide)); exact rfl; exact uP_) | ((with_reducible first | apply o_move | apply o_assign | apply o_faddr0 | apply o_nilCheck); exact rfl; exact rfl) | ((with_reducible apply gdo_load); first | refine wo_load (h := ?_) | refine wo_loadAll (h := ?_) | refine wo_loadC (h := ?_) | refine wo_ldV (h := ?_)) | ((with_reducible first | apply o_lss | apply o_gtr); exact rfl; exact rfl; exact rfl) | ((with_reducible first | apply o_add | apply o_sub); exact rfl; exact rfl; exact rfl; (constructor <;> omega)) | ((with_reducible apply o_alloc); exact rfl; intro _) | ((with_reducible apply o_box); exact rfl; exact rfl; exact rfl; intro _) | ((with_reducible apply gdo_store); first | refine wo_store1 (h := ?_) | refine wo_storeA (h := ?_)) | ((with_reducible apply gdo_build); first | refine wo_build (h := ?_) | refine wo_buildA (h := ?_)) | ((with_reducible apply gdo_buildSlice); refine wo_buildSlice (h := fun _ => ?_)) | ((with_reducible apply o_idx); infer_instance; infer_instance; exact rfl; exact rfl; (first | exact rfl | omega); exact rfl; (first | assumption | omega | decide)) | ((with_reducible first | apply c_seq | apply c_block | apply c_region | apply c_nil | apply c_ret | apply c_exit | apply c_skip)) | ((with_reducible apply c_cond_t); exact rfl; exact tT_) | ((with_reducible apply c_cond_f); exact rfl; exact fF_) | ((with_reducible first | apply e_then | apply e_then_ret | apply e_then_exit | apply e_in | apply e_in_ret | apply e_in_same)) | ((with_reducible apply c_regionD0 (id := 1) []); kernel_rfl; kernel_rfl) | ((with_reducible apply c_regionD0 (id := 8) []); kernel_rfl; kernel_rfl) | ((with_reducible apply q_nil); try simp only [ents, List.cons_append, List.nil_append]) | ((with_reducible first | apply q_move | apply q_assign | apply q_faddr0); exact rfl; exact rfl) | ((with_reducible apply gdq_load); first | refine wq_load (h := ?_) | refine wq_loadAll (h := ?_) | refine wq_loadC (h := ?_)) | ((with_reducible first | apply q_lss | apply q_gtr); exact rfl; exact rfl; exact rfl) | ((with_reducible apply gdq_nilCheck); refine wq_nilCheck (h := ?_)) | ((with_reducible apply q_idx); infer_instance; infer_instance; exact rfl; exact rfl; (first | exact rfl | omega); exact rfl; (first | assumption | omega | decide)) | ((with_reducible apply gdq_buildSlice); refine wq_buildSlice (h := fun _ => ?_)))
    apply r_body'; apply res0 Try.results35; intro w' hw
    exact ⟨_, _, rfl, ⟨rfl, bs, bw, bh, ao, co, ar, cr, a9, c9, _, _, NO, NR, N9, rfl, q5 _ _ _ hO', hO, hR, hO9, ⟨by simp [zs], zw, by rw [← hH1]; simp [zh]⟩⟩, hw.sub (by simp only [List.cons_append, List.append_assoc, List.nil_append]; exact hS_)⟩
  by_cases hleft : 0 < m.left
  · obtain ⟨H0, hH0⟩ : ∃ H0, m.held.set k 0 = H0 := ⟨_, rfl⟩
    obtain ⟨H1, hH1⟩ : ∃ H1, H0.set k (0 + 1) = H1 := ⟨_, rfl⟩
    obtain ⟨W1, hW1⟩ : ∃ W1, m.swept.set k (s + 1) = W1 := ⟨_, rfl⟩
    have hh0 : H0[k]? = some 0 := by rw [← hH0, List.getElem?_set_self hhl]
    have g4 := (Pat.flat encI_len H0 []).one hh0 rfl
    have e : Srt.takeF caps m ⟨x, k⟩ = ⟨m.stackers.set k (xs ++ [x]), W1, m.over, m.rej, m.evs ++ [⟨2, x, k⟩, ⟨1, x, k⟩], H1, m.left - 1⟩ := by
      unfold Srt.takeF
      simp only [Int.toNat_natCast, dc, dh]
      rw [if_neg (by omega), if_neg hlt, if_pos hleft]
      have d0 : H0.getD k 0 = 0 := by simp [hh0]
      simp only [Srt.stack, Srt.note, Srt.putAt, Seq.addAt, Int.toNat_natCast, dx, ds, hH0, d0, hH1, hW1]
    rw [e]
    refine f_enterF2 Try.func35 rfl Try.ntmps35 rfl (hw) ?_
    repeat' (first | ((with_reducible apply o_note); exact rfl; exact rfl; exact rfl; (focus (repeat (first | exact Rem.hd | apply Rem.tl | apply Rem.right))); assumption; exact rL_; (exact fun w hw => SV.lit [(⟨2, x, k⟩ : Srt.Ev), ⟨1, x, k⟩] encE_len hw (by exact aT_) rfl rfl (by decide)); exact ⟨by omega, by simp⟩; intro a9 c9 N9 hO9; have oN9 := hO9.own) | ((with_reducible apply c_regionA0 (id := 15) (specA 16 N hN [(16, appφ 3 1 encI (xs ++ [x]))])); kernel_rfl; kernel_rfl; exact rfl; exact rL_) | ((with_reducible apply q_appA (enc := encI) (xs := xs) (ys := [x]) (H := N)); infer_instance; infer_instance; infer_instance; exact rfl; exact encI_len; exact encI_one; exact rfl; exact rfl; exact rfl; exact rfl; exact sJ_; exact rfl; exact q2; (exact fun w hw => SV.lit [x] encI_len hw (by exact aT_) rfl rfl (by decide)); (constructor <;> (try simp only [List.length_cons, List.length_nil]) <;> omega); intro a' cap' N' Rr' hO' hN' hR') | ((apply q_storeS (enc := encS) (kl := 1) (m := k) (o := 0) (xs := ss) (z := (sa, _, sc)) ((a', (xs ++ [x]).length, cap') : SD)); infer_instance; exact rfl; exact rfl; exact aT_; exact q1; exact encS_len; omega; exact rfl; exact rfl; (intro u hu; simp at hu; subst hu; rfl); (exact Nat.le_refl _); exact rfl; exact uP_) | (apply o_storeT (enc := encI) (k := 1) (m := k) (o := 0) (xs := (m.held)) (0) (hH0); infer_instance; exact rfl; exact rfl; exact aT_; exact (hh); exact encI_len; omega; exact rfl; exact rfl; (intro u hu; simp at hu; first | (subst hu; rfl) | (rcases hu with rfl | rfl <;> rfl) | (rcases hu with rfl | rfl | rfl <;> rfl) | (rcases hu with rfl | rfl | rfl | rfl <;> rfl)); (first | decide | exact Nat.le_refl _ | (simp only [List.length_cons, List.length_nil]; decide)); exact rfl; exact uP_) | (apply o_storeT (enc := encI) (k := 1) (m := k) (o := 0) (xs := (m.swept)) (s + 1) (hW1); infer_instance; exact rfl; exact rfl; exact aT_; exact (hs); exact encI_len; omega; exact rfl; exact rfl; (intro u hu; simp at hu; first | (subst hu; rfl) | (rcases hu with rfl | rfl <;> rfl) | (rcases hu with rfl | rfl | rfl <;> rfl) | (rcases hu with rfl | rfl | rfl | rfl <;> rfl)); (first | decide | exact Nat.le_refl _ | (simp only [List.length_cons, List.length_nil]; decide)); exact rfl; exact uP_) | (apply o_storeT (enc := encI) (k := 1) (m := k) (o := 0) (xs := (H0)) (0 + 1) (hH1); infer_instance; exact rfl; exact rfl; exact aT_; exact (hh0); exact encI_len; omega; exact rfl; exact rfl; (intro u hu; simp at hu; first | (subst hu; rfl) | (rcases hu with rfl | rfl <;> rfl) | (rcases hu with rfl | rfl | rfl <;> rfl) | (rcases hu with rfl | rfl | rfl | rfl <;> rfl)); (first | decide | exact Nat.le_refl _ | (simp only [List.length_cons, List.length_nil]; decide)); exact rfl; exact uP_) | ((with_reducible first | apply o_move | apply o_assign | apply o_faddr0 | apply o_nilCheck); exact rfl; exact rfl) | ((with_reducible apply gdo_load); first | refine wo_load (h := ?_) | refine wo_loadAll (h := ?_) | refine wo_loadC (h := ?_) | refine wo_ldV (h := ?_)) | ((with_reducible first | apply o_lss | apply o_gtr); exact rfl; exact rfl; exact rfl) | ((with_reducible first | apply o_add | apply o_sub); exact rfl; exact rfl; exact rfl; (constructor <;> omega)) | ((with_reducible apply o_alloc); exact rfl; intro _) | ((with_reducible apply o_box); exact rfl; exact rfl; exact rfl; intro _) | ((with_reducible apply gdo_store); first | refine wo_store1 (h := ?_) | refine wo_storeA (h := ?_)) | ((with_reducible apply gdo_build); first | refine wo_build (h := ?_) | refine wo_buildA (h := ?_)) | ((with_reducible apply gdo_buildSlice); refine wo_buildSlice (h := fun _ => ?_)) | ((with_reducible apply o_idx); infer_instance; infer_instance; exact rfl; exact rfl; (first | exact rfl | omega); exact rfl; (first | assumption | omega | decide)) | ((with_reducible first | apply c_seq | apply c_block | apply c_region | apply c_nil | apply c_ret | apply c_exit | apply c_skip)) | ((with_reducible apply c_cond_t); exact rfl; exact tT_) | ((with_reducible apply c_cond_f); exact rfl; exact fF_) | ((with_reducible first | apply e_then | apply e_then_ret | apply e_then_exit | apply e_in | apply e_in_ret | apply e_in_same)) | ((with_reducible apply c_regionD0 (id := 1) []); kernel_rfl; kernel_rfl) | ((with_reducible apply c_regionD0 (id := 8) []); kernel_rfl; kernel_rfl) | ((with_reducible apply q_nil); try simp only [ents, List.cons_append, List.nil_append]) | ((with_reducible first | apply q_move | apply q_assign | apply q_faddr0); exact rfl; exact rfl) | ((with_reducible apply gdq_load); first | refine wq_load (h := ?_) | refine wq_loadAll (h := ?_) | refine wq_loadC (h := ?_)) | ((with_reducible first | apply q_lss | apply q_gtr); exact rfl; exact rfl; exact rfl) | ((with_reducible apply gdq_nilCheck); refine wq_nilCheck (h := ?_)) | ((with_reducible apply q_idx); infer_instance; infer_instance; exact rfl; exact rfl; (first | exact rfl | omega); exact rfl; (first | assumption | omega | decide)) | ((with_reducible apply gdq_buildSlice); refine wq_buildSlice (h := fun _ => ?_)))
    apply r_body'; apply res0 Try.results35; intro w' hw
    exact ⟨_, _, rfl, ⟨rfl, bs, bw, bh, ao, co, ar, cr, a9, c9, _, _, NO, NR, N9, rfl, q5 _ _ _ hO', hO, hR, hO9, ⟨by simp [zs], by rw [← hW1]; simp [zw], by rw [← hH1, ← hH0]; simp [zh]⟩⟩, hw.sub (by simp only [List.cons_append, List.append_assoc, List.nil_append]; exact hS_)⟩
  · have e : Srt.takeF caps m ⟨x, k⟩ = ⟨m.stackers, m.swept, m.over ++ [x], m.rej, m.evs ++ [⟨3, x, k⟩], m.held, m.left⟩ := by
      unfold Srt.takeF
      simp only [Int.toNat_natCast, dc, dh]
      rw [if_neg (by omega), if_neg hlt, if_neg hleft]
      rfl
    rw [e]
    refine f_enterF2 Try.func35 rfl Try.ntmps35 rfl (hw) ?_
    repeat' (first | (apply o_appH (enc := encI) (ys := [(x)]); infer_instance; infer_instance; infer_instance; exact rfl; exact encI_len; exact encI_one; exact rfl; exact rfl; exact rfl; assumption; exact rL_; (exact fun w hw => SV.lit [(x)] encI_len hw (by exact aT_) rfl rfl (by decide)); (first | decide | (constructor <;> (try simp only [List.length_cons, List.length_nil]) <;> omega) | (constructor <;> simp <;> omega)); intro a1 c1 N1 hO1; have oN1 := hO1.own) | ((with_reducible apply o_note); exact rfl; exact rfl; exact rfl; (focus (repeat (first | exact Rem.hd | apply Rem.tl | apply Rem.right))); assumption; exact rL_; (exact fun w hw => SV.lit [(⟨3, x, k⟩ : Srt.Ev)] encE_len hw (by exact aT_) rfl rfl (by decide)); exact ⟨by omega, by simp⟩; intro a9 c9 N9 hO9; have oN9 := hO9.own) | ((with_reducible first | apply o_move | apply o_assign | apply o_faddr0 | apply o_nilCheck); exact rfl; exact rfl) | ((with_reducible apply gdo_load); first | refine wo_load (h := ?_) | refine wo_loadAll (h := ?_) | refine wo_loadC (h := ?_) | refine wo_ldV (h := ?_)) | ((with_reducible first | apply o_lss | apply o_gtr); exact rfl; exact rfl; exact rfl) | ((with_reducible apply o_alloc); exact rfl; intro _) | ((with_reducible apply o_box); exact rfl; exact rfl; exact rfl; intro _) | ((with_reducible apply gdo_store); first | refine wo_store1 (h := ?_) | refine wo_storeA (h := ?_)) | ((with_reducible apply gdo_build); first | refine wo_build (h := ?_) | refine wo_buildA (h := ?_)) | ((with_reducible apply gdo_buildSlice); refine wo_buildSlice (h := fun _ => ?_)) | ((with_reducible first | apply c_seq | apply c_block | apply c_region | apply c_nil | apply c_ret | apply c_exit | apply c_skip)) | ((with_reducible apply c_cond_f); exact rfl; exact fF_) | ((with_reducible first | apply e_then | apply e_then_ret | apply e_then_exit | apply e_in | apply e_in_ret | apply e_in_same)) | ((with_reducible apply c_regionD0 (id := 1) []); kernel_rfl; kernel_rfl) | ((with_reducible apply c_regionD0 (id := 8) []); kernel_rfl; kernel_rfl) | ((with_reducible apply q_nil); try simp only [ents, List.cons_append, List.nil_append]) | ((with_reducible first | apply q_move | apply q_assign | apply q_faddr0); exact rfl; exact rfl) | ((with_reducible apply gdq_load); first | refine wq_load (h := ?_) | refine wq_loadAll (h := ?_) | refine wq_loadC (h := ?_)) | ((with_reducible first | apply q_lss | apply q_gtr); exact rfl; exact rfl; exact rfl) | ((with_reducible apply gdq_nilCheck); refine wq_nilCheck (h := ?_)) | ((with_reducible apply q_idx); infer_instance; infer_instance; exact rfl; exact rfl; (first | exact rfl | omega); exact rfl; (first | assumption | omega | decide)))
    apply r_body; apply res0 Try.results35; intro w' hw
    exact ⟨_, _, rfl, ⟨rfl, bs, bw, bh, a1, c1, ar, cr, a9, c9, ss, _, N1, NR, N9, rfl, hS, hO1, hR, hO9, ⟨zs, zw, zh⟩⟩, hw.sub (by simp only [List.cons_append, List.append_assoc, List.nil_append]; exact hS_)⟩
end Go.Proofs.Ythcoaljmgkhglaa
namespace Go.Proofs.Ythcoaljmgkhglaa
open Go Go.Sx Go.RowKit
attribute [local irreducible] WL WC WQ WR St Exit.then Exit.inBlock Exit.noGoto bodyPost roundPost beginK YR RG BM Calls B AgainD MeetD
/-! ## a pass -/
/-- v is a pass that shows what a machine has, in rows of the call's own. -/
def passOW (m : Srt.M) (v : Value) (N : List Ent) : Prop := ∃ a1 c1 a2 c2 a3 c3 a4 c4 a5 c5 ss N1 M1 N2 N3 N4 N5, v = .agg #[.slice a1 m.stackers.length c1, .slice a2 m.swept.length c2, .slice a3 m.over.length c3, .slice a4 m.rej.length c4, .slice a5 m.evs.length c5] ∧
  OW 34 1 encS (.slice a1 m.stackers.length c1) ss N1 ∧ LL 3 1 encI ss m.stackers M1 ∧ OW 3 1 encI (.slice a2 m.swept.length c2) m.swept N2 ∧ OW 3 1 encI (.slice a3 m.over.length c3) m.over N3 ∧ OW 3 1 encI (.slice a4 m.rej.length c4) m.rej N4 ∧ OW 123 3 encE (.slice a5 m.evs.length c5) m.evs N5 ∧
  N = N1 ++ (M1 ++ (N2 ++ (N3 ++ (N4 ++ N5))))
theorem passOW.own {m : Srt.M} {v : Value} {N : List Ent} (h : passOW m v N) : ∀ x ∈ N, x.own = true := by
  obtain ⟨a1, c1, a2, c2, a3, c3, a4, c4, a5, c5, ss, N1, M1, N2, N3, N4, N5, rfl, h1, h2, h3, h4, h5, h6, rfl⟩ := h
  intro x hx
  simp only [List.mem_append] at hx
  rcases hx with hx | hx | hx | hx | hx | hx
  · exact h1.own x hx
  · exact h2.own x hx
  · exact h3.own x hx
  · exact h4.own x hx
  · exact h5.own x hx
  · exact h6.own x hx
theorem passOW.zero : passOW (Srt.M.new 0 0) (.agg #[.slice none 0 0, .slice none 0 0, .slice none 0 0, .slice none 0 0, .slice none 0 0]) [] :=
  ⟨none, 0, none, 0, none, 0, none, 0, none, 0, [], [], [], [], [], [], [], rfl, OW.nil, LL.nil, OW.nil, OW.nil, OW.nil, OW.nil, rfl⟩
theorem ow_rowI {b n : Nat} {xs : List Int} (h : xs.length = n) (hn : n ≤ 1000000) : OW 3 1 encI (.slice (some ⟨b, 0, none⟩) n n) xs [⟨b, Ce (xs.flatMap encI ++ []) 3, true⟩] := by
  subst h
  exact OW.row (by rw [List.append_nil, flat_len encI_len]) ⟨Nat.le_refl _, by omega⟩
theorem ow_rowS {b n : Nat} {ss : List SD} (h : ss.length = n) (hn : n ≤ 1000000) : OW 34 1 encS (.slice (some ⟨b, 0, none⟩) n n) ss [⟨b, Ce (ss.flatMap encS ++ []) 34, true⟩] := by
  subst h
  exact OW.row (by rw [List.append_nil, flat_len encS_len]) ⟨Nat.le_refl _, by omega⟩
set_option maxHeartbeats 16000000 in
theorem play_calls {cv fv : Value} {caps : List Int} {s : Int} {l : List Srt.Fd} (w : World) (h : SV w 1 encI cv caps) (hl : SV w 2 encF fv l) (hn : caps.length ≤ 64) (hs : -9223372036854775808 ≤ s ∧ s ≤ 9223372036854775807) (hf : ∀ f ∈ l, f.st < caps.length) (hlen : l.length ≤ 5000) :
    Calls Try.prog 29 #[cv, .int .i64 s, fv] w fun e w' => ∃ v N, e = .returned v ∧ passOW (Srt.playF caps s l) v N ∧ Rep w w' N ∧ ∀ x ∈ N, x.own = true := by
  obtain ⟨a0, ca, rfl, hca, hop⟩ := hl.open
  refine f_enter3 Try.func29 rfl Try.ntmps29 rfl (Rep.start w) ?_
  repeat' (first | ((first | ((with_reducible apply o_call_new (f := 34)); exact rfl) | ((with_reducible apply q_call_new (f := 34)); exact rfl; exact rfl; exact sJ_)); exact eV_; exact (fun w hw => new_calls w (h.keep hw (by exact aO_)) hn); rintro v N ⟨b, rfl, hm0, oN⟩ <;> (try simp only [List.cons_append, List.nil_append, List.append_assoc])) | ((with_reducible first | apply o_move | apply o_assign | apply o_faddr0 | apply o_nilCheck); exact rfl; exact rfl) | ((with_reducible apply o_alloc); exact rfl; intro _) | ((with_reducible apply o_len); infer_instance; exact rfl; exact rfl) | ((with_reducible first | apply c_seq | apply c_block | apply c_region | apply c_nil | apply c_ret | apply c_exit | apply c_skip)) | ((with_reducible first | apply e_then | apply e_then_ret | apply e_then_exit | apply e_in | apply e_in_ret | apply e_in_same)))
  rename_i b6
  apply c_loop (σ := Nat × List Ent) (Fs := fun t => [(15, .int .i64 t.1), (14, .int .i64 l.length), (13, .slice a0 l.length ca), (7, ptr b), (6, ptr b6)])
    (Ls := fun t => t.2 ++ [⟨b6, Ce [.slice none 0 0, .slice none 0 0, .slice none 0 0, .slice none 0 0, .slice none 0 0] 60, true⟩])
    (I := fun t => t.1 ≤ l.length ∧ mach caps.length b cv (Srt.playF caps s (l.take t.1)) t.2) (μ := fun t => l.length - t.1) (s0 := (0, N))
  · exact ⟨Nat.zero_le _, by simpa [Srt.playF] using hm0⟩
  · exact fS_
  · exact hS_
  rintro ⟨i, G⟩ ⟨hi, hm⟩
  dsimp only at hi hm ⊢
  have oG := hm.own
  by_cases hlt : i < l.length
  · obtain ⟨⟨x, st⟩, hx⟩ : ∃ f, l[i]? = some f := ⟨_, List.getElem?_eq_getElem hlt⟩
    obtain ⟨b1, off, cc, e, fz, rfl, hk, hp⟩ := hop (by omega)
    have g1 := hp.get hx
    have hst := hf _ (List.mem_of_getElem? hx)
    dsimp only at hst
    have hbd := Srt.playF_bd caps hs (l.take i)
    have htl : (l.take i).length ≤ 5000 := by rw [List.length_take]; omega
    have e1 : Srt.playF caps s (l.take (i + 1)) = Srt.takeF caps (Srt.playF caps s (l.take i)) ⟨x, st⟩ := by rw [take_snoc hx, Srt.playF_snoc]
    repeat' (first | ((with_reducible apply o_call_frame (f := 35) (G := G) (Φ := fun v G' => v = .tuple #[] ∧ mach caps.length b cv (Srt.takeF caps (Srt.playF caps s (l.take i)) ⟨x, st⟩) G')); exact rfl; exact rfl; exact eV_; exact rL_; (exact fun w hw => by rw [Array.append_empty]; exact take_calls h (show AO _ by exact aO_) hw hm hbd (by omega) hst); rintro v G' ⟨rfl, hm'⟩; have oG' := hm'.own) | ((with_reducible first | apply o_move | apply o_assign | apply o_faddr0 | apply o_nilCheck); exact rfl; exact rfl) | ((with_reducible apply gdo_load); first | refine wo_load (h := ?_) | refine wo_loadAll (h := ?_) | refine wo_loadC (h := ?_) | refine wo_ldV (h := ?_)) | ((with_reducible apply o_lss); exact rfl; exact rfl; exact rfl) | ((with_reducible apply o_add); exact rfl; exact rfl; exact rfl; (constructor <;> omega)) | ((with_reducible apply o_alloc); exact rfl; intro _) | ((with_reducible apply gdo_store); first | refine wo_store1 (h := ?_) | refine wo_storeA (h := ?_)) | ((with_reducible apply o_idx); infer_instance; infer_instance; exact rfl; exact rfl; (first | exact rfl | omega); exact rfl; (first | assumption | omega | decide)) | ((with_reducible first | apply c_seq | apply c_block | apply c_region | apply c_nil | apply c_ret | apply c_exit | apply c_skip)) | ((with_reducible apply c_cond_t); exact rfl; exact tT_) | ((with_reducible first | apply e_then | apply e_then_ret | apply e_then_exit | apply e_in | apply e_in_ret | apply e_in_same)))
    refine l_again (i + 1, G') ⟨by dsimp only; omega, by dsimp only; rw [e1]; exact hm'⟩ (by dsimp only; omega) ?_ ?_
    · exact fS_
    · exact hS_
  rw [List.take_of_length_le (by omega)] at hm
  obtain ⟨bs, bw, bh, ao, co, ar, cr, ae, ce, ss, ML, NO, NR, NE, rfl, hS, hO, hR, hE, hz⟩ := hm
  have h1 := hS.own
  have h2 := hO.own
  have h3 := hR.own
  have h4 := hE.own
  simp only [List.cons_append, List.append_assoc, List.nil_append]
  generalize Srt.playF caps s l = m at *
  repeat' (first | ((with_reducible apply o_ldV (l := [slc bs caps.length, slc bw caps.length, .slice ao m.over.length co, .slice ar m.rej.length cr, .slice ae m.evs.length ce])); infer_instance; infer_instance; exact rfl; exact kN_; (intro j v hj; rcases j with _ | _ | _ | _ | _ | j <;> simp_all); exact rfl; exact rfl) | ((with_reducible first | apply o_move | apply o_assign | apply o_faddr0 | apply o_nilCheck); exact rfl; exact rfl) | ((with_reducible apply o_lss); exact rfl; exact rfl; exact rfl) | ((with_reducible apply gdo_store); first | refine wo_store1 (h := ?_) | refine wo_storeA (h := ?_)) | ((with_reducible first | apply c_seq | apply c_block | apply c_region | apply c_nil | apply c_ret | apply c_exit | apply c_skip)) | ((with_reducible apply c_cond_f); exact rfl; exact fF_) | ((with_reducible first | apply e_then | apply e_then_ret | apply e_then_exit | apply e_in | apply e_in_ret | apply e_in_same)))
  apply r_body; apply res1 Try.results29; exact rV_; intro w' hw
  refine ⟨_, ⟨bs, Ce (ss.flatMap encS ++ []) 34, true⟩ :: (ML ++ (⟨bw, Ce (m.swept.flatMap encI ++ []) 3, true⟩ :: (NO ++ (NR ++ NE)))), rfl, ⟨some ⟨bs, 0, none⟩, caps.length, some ⟨bw, 0, none⟩, caps.length, ao, co, ar, cr, ae, ce, ss, [_], ML, [_], NO, NR, NE, ?_, ?_, hS, ?_, hO, hR, hE, rfl⟩, ?_, ?_⟩
  · rw [hz.st, hz.sw]
  · rw [hz.st]; exact ow_rowS (by rw [hS.len, hz.st]) (by omega)
  · rw [hz.sw]; exact ow_rowI hz.sw (by omega)
  · refine hw.sub ?_
    conv => arg 1; rw [← List.append_nil NE]
    exact hS_
  · rw [← List.append_nil NE]
    exact show AO _ by exact aO_
/-! ## Run, Need, Leave -/
end Go.Proofs.Ythcoaljmgkhglaa
namespace Go.Proofs.Ythcoaljmgkhglaa
open Go Go.Sx Go.RowKit
attribute [local irreducible] WL WC WQ WR St Exit.then Exit.inBlock Exit.noGoto bodyPost roundPost beginK YR RG BM Calls B AgainD MeetD
/-! ## Need, Leave -/
def needV (r : Int × Int) : Value := .tuple #[.int .i64 r.1, .int .i64 r.2]
theorem leave_calls {a1 : Option Addr} {n1 c1 : Nat} {x1 x2 x3 x4 : Value} {ss : List SD} {xss : List (List Int)} (w : World) (h : SV w 1 encS (.slice a1 n1 c1) ss) (hs : SL w 1 encI ss xss) (hn : xss.flatten.length ≤ 1000000) :
    Calls Try.prog 30 #[.agg #[.slice a1 n1 c1, x1, x2, x3, x4]] w fun e w' => ∃ v N, e = .returned v ∧ (∃ a cap, v = .slice a xss.flatten.length cap ∧ OW 3 1 encI (.slice a xss.flatten.length cap) xss.flatten N ∧ ∀ x ∈ N, x.own = true) ∧ Rep w w' N ∧ ∀ x ∈ N, x.own = true := by
  refine f_enter1 Try.func30 rfl Try.ntmps30 rfl (Rep.start w) ?_
  repeat' (first | ((first | ((with_reducible apply o_call_new (f := 36)); exact rfl) | ((with_reducible apply q_call_new (f := 36)); exact rfl; exact rfl; exact sJ_)); exact eV_; exact (fun w hw => concat_calls encI_len encI_one w (h.keep hw (by exact aO_)) (hs.keep hw (by exact aO_)) hn); rintro v2 N2 ⟨a6, c6, rfl, g6, o6⟩ <;> (try simp only [List.cons_append, List.nil_append])) | ((with_reducible first | apply o_assign | apply o_faddr0); exact rfl; exact rfl) | ((with_reducible apply gdo_load); first | refine wo_load (h := ?_) | refine wo_loadAll (h := ?_) | refine wo_loadC (h := ?_) | refine wo_ldV (h := ?_)) | ((with_reducible apply o_box); exact rfl; exact rfl; exact rfl; intro _) | ((with_reducible first | apply c_seq | apply c_block | apply c_region | apply c_nil | apply c_ret | apply c_exit | apply c_skip)) | ((with_reducible first | apply e_then | apply e_then_ret | apply e_then_exit | apply e_in | apply e_in_ret | apply e_in_same)))
  apply r_body; apply res1 Try.results30; exact rV_; intro w' hw
  exact ⟨_, _, rfl, ⟨a6, c6, rfl, g6, o6⟩, hw.sub (by exact hS_), o6⟩
/-! ## what the laws make of their arguments -/
end Go.Proofs.Ythcoaljmgkhglaa
namespace Go.Proofs.Ythcoaljmgkhglaa
open Go Go.Sx Go.RowKit
attribute [local irreducible] WL WC WQ WR St Exit.then Exit.inBlock Exit.noGoto bodyPost roundPost beginK YR RG BM Calls B AgainD MeetD
/-! ## Make -/
theorem along_calls (a0 : Option Addr) (n0 c0 : Nat) (a1 : Option Addr) (n1 c1 : Nat) (k : Int) (w : World) : Calls Try.prog 26 #[.slice a0 n0 c0, .slice a1 n1 c1, .int .i64 k] w fun e w' => ∃ v N, e = .returned v ∧
    (∃ b3 b4 b5, v = .func (.func 33) #[] #[ptr b3, ptr b5, ptr b4] ∧ N = [⟨b5, Ce [.int .i64 k] 3, true⟩, ⟨b4, Ce [.slice a1 n1 c1] 34, true⟩, ⟨b3, Ce [.slice a0 n0 c0] 46, true⟩]) ∧ Rep w w' N ∧ ∀ x ∈ N, x.own = true := by
  refine f_enter3 Try.func26 rfl Try.ntmps26 rfl (Rep.start w) ?_
  repeat' (first | ((with_reducible apply o_assign); exact rfl; exact rfl) | ((with_reducible apply o_box); exact rfl; exact rfl; exact rfl; intro _) | ((with_reducible apply gdo_makeFunc); refine wo_func (h := ?_)) | ((with_reducible first | apply c_seq | apply c_block | apply c_region | apply c_nil | apply c_ret | apply c_exit | apply c_skip)) | ((with_reducible first | apply e_then | apply e_then_ret | apply e_then_exit | apply e_in | apply e_in_ret | apply e_in_same)))
  apply r_body; apply res1 Try.results26; exact rV_; intro w' hw
  exact ⟨_, _, rfl, ⟨_, _, _, rfl, rfl⟩, hw, by simp⟩
/-- A plan that the call has made. -/
def planOW (p : Seq.Plan) (v : Value) (N : List Ent) : Prop := ∃ a1 c1 a2 c2 a3 c3 a4 c4 N1 N2 N3 N4, v = .agg #[.slice a1 p.caps.length c1, .slice a2 p.seats.length c2, .slice a3 p.first.length c3, .slice a4 p.second.length c4] ∧
  OW 3 1 encI (.slice a1 p.caps.length c1) p.caps N1 ∧ OW 97 4 encSeat (.slice a2 p.seats.length c2) p.seats N2 ∧ OW 3 1 encI (.slice a3 p.first.length c3) p.first N3 ∧ OW 3 1 encI (.slice a4 p.second.length c4) p.second N4 ∧ N = N1 ++ (N2 ++ (N3 ++ N4))
theorem planOW.own {p : Seq.Plan} {v : Value} {N : List Ent} (h : planOW p v N) : ∀ x ∈ N, x.own = true := by
  obtain ⟨a1, c1, a2, c2, a3, c3, a4, c4, N1, N2, N3, N4, rfl, h1, h2, h3, h4, rfl⟩ := h
  intro x hx
  simp only [List.mem_append] at hx
  rcases hx with hx | hx | hx | hx
  · exact h1.own x hx
  · exact h2.own x hx
  · exact h3.own x hx
  · exact h4.own x hx
def makeφ (r : Seq.Plan × Int) (v : Value) (N : List Ent) : Prop := ∃ pv, v = .tuple #[pv, .int .i64 r.2] ∧ planOW r.1 pv N ∧ ∀ x ∈ N, x.own = true
def noneV : Value := .agg #[.slice none 0 0, .slice none 0 0, .slice none 0 0, .slice none 0 0]
theorem makeφ_zero (k : Int) : makeφ (.zero, k) (.tuple #[.agg #[.slice none 0 0, .slice none 0 0, .slice none 0 0, .slice none 0 0], .int .i64 k]) [] :=
  ⟨_, rfl, ⟨none, 0, none, 0, none, 0, none, 0, [], [], [], [], rfl, OW.nil, OW.nil, OW.nil, OW.nil, rfl⟩, by simp⟩
theorem makeφ_mk {p : Seq.Plan} {a1 a2 a3 a4 : Option Addr} {n1 n2 n3 n4 c1 c2 c3 c4 : Nat} {N1 N2 N3 N4 : List Ent} (e1 : p.caps.length = n1) (e2 : p.seats.length = n2) (e3 : p.first.length = n3) (e4 : p.second.length = n4) (h1 : OW 3 1 encI (.slice a1 n1 c1) p.caps N1) (h2 : OW 97 4 encSeat (.slice a2 n2 c2) p.seats N2) (h3 : OW 3 1 encI (.slice a3 n3 c3) p.first N3) (h4 : OW 3 1 encI (.slice a4 n4 c4) p.second N4) (k : Int) :
    makeφ (p, k) (.tuple #[.agg #[.slice a1 n1 c1, .slice a2 n2 c2, .slice a3 n3 c3, .slice a4 n4 c4], .int .i64 k]) (N1 ++ (N2 ++ (N3 ++ N4))) := by
  subst e1 e2 e3 e4
  have : planOW p (.agg #[.slice a1 p.caps.length c1, .slice a2 p.seats.length c2, .slice a3 p.first.length c3, .slice a4 p.second.length c4]) (N1 ++ (N2 ++ (N3 ++ N4))) := ⟨a1, c1, a2, c2, a3, c3, a4, c4, N1, N2, N3, N4, rfl, h1, h2, h3, h4, rfl⟩
  exact ⟨_, rfl, this, this.own⟩
theorem machine_yes {v : Value} {caps : List Int} (hm : Seq.machineOk caps) (w : World) (h : SV w 1 encI v caps) : Calls Try.prog 22 #[v] w fun e w' => e = .returned (.bool true) ∧ Below w.heap.size w w' := by
  have := machine_calls w h; rwa [B_true hm] at this
theorem machine_no {v : Value} {caps : List Int} (hm : ¬ Seq.machineOk caps) (w : World) (h : SV w 1 encI v caps) : Calls Try.prog 22 #[v] w fun e w' => e = .returned (.bool false) ∧ Below w.heap.size w w' := by
  have := machine_calls w h; rwa [B_false hm] at this
theorem wrong_some {v : Value} {l : List Seq.Stop} {i : Nat} (hr : Seq.wrongF [] 0 l = some i) (w : World) (h : SV w 2 encStop v l) : Calls Try.prog 23 #[v] w fun e w' => e = .returned (.tuple #[.int .i64 i, .bool true]) ∧ Below w.heap.size w w' := by
  have := wrong_calls w h; rwa [hr] at this
theorem wrong_none {v : Value} {l : List Seq.Stop} (hr : Seq.wrongF [] 0 l = none) (w : World) (h : SV w 2 encStop v l) : Calls Try.prog 23 #[v] w fun e w' => e = .returned (.tuple #[.int .i64 0, .bool false]) ∧ Below w.heap.size w w' := by
  have := wrong_calls w h; rwa [hr] at this
theorem over_some {vc vf vs : Value} {caps fs ss : List Int} {i : Nat} (hr : Seq.overF 0 caps fs ss = some i) (w : World) (hc : SV w 1 encI vc caps) (hf : SV w 1 encI vf fs) (hs : SV w 1 encI vs ss) (nf : fs.length = caps.length) (ns : ss.length = caps.length) :
    Calls Try.prog 27 #[vc, vf, vs] w fun e w' => e = .returned (.tuple #[.int .i64 i, .bool true]) ∧ Below w.heap.size w w' := by
  have := over_calls w hc hf hs nf ns; rwa [hr] at this
theorem over_none {vc vf vs : Value} {caps fs ss : List Int} (hr : Seq.overF 0 caps fs ss = none) (w : World) (hc : SV w 1 encI vc caps) (hf : SV w 1 encI vf fs) (hs : SV w 1 encI vs ss) (nf : fs.length = caps.length) (ns : ss.length = caps.length) :
    Calls Try.prog 27 #[vc, vf, vs] w fun e w' => e = .returned (.tuple #[.int .i64 0, .bool false]) ∧ Below w.heap.size w w' := by
  have := over_calls w hc hf hs nf ns; rwa [hr] at this
/-! plain laws on the rule -/
theorem place_stay {limit cur held : Nat} {v load c : Int} {cs : List Int} (h : held < limit ∧ load + v ≤ c) : Seq.place limit v cur held load (c :: cs) = some (cur, held, load, c :: cs) := by rw [Seq.place, if_pos h]
theorem place_go {limit cur held : Nat} {v load c : Int} {cs : List Int} (h : ¬ (held < limit ∧ load + v ≤ c)) : Seq.place limit v cur held load (c :: cs) = Seq.place limit v (cur + 1) 0 0 cs := by rw [Seq.place, if_neg h]
set_option maxHeartbeats 4000000 in
theorem make_calls {vs vc : Value} {l : List Seq.Stop} {caps : List Int} (w : World) (hs : SV w 2 encStop vs l) (hc : SV w 1 encI vc caps) : Calls Try.prog 8 #[vs, vc] w fun e w' => ∃ v N, e = .returned v ∧ makeφ (Seq.makeF l caps) v N ∧ Rep w w' N ∧ ∀ x ∈ N, x.own = true := by
  obtain ⟨ao, cs, rfl, hcs, hops⟩ := hs.open
  obtain ⟨av, cv, rfl, hcv, hopv⟩ := hc.open
  by_cases hm : Seq.machineOk caps
  case neg =>
    have e : Seq.makeF l caps = (.zero, 280) := by unfold Seq.makeF; rw [if_pos hm]
    rw [e]
    refine f_enterM2 Try.func8 rfl Try.ntmps8 rfl (Rep.start w) ?_
    repeat' (first | ((first | ((with_reducible apply o_call_pure (f := 22)); exact rfl) | ((with_reducible apply q_call_pure (f := 22)); exact rfl; kernel_rfl; exact rfl; exact sJ_)); exact eV_; exact (fun w hw => machine_no hm w (hc.keep hw (by exact aO_)))) | ((with_reducible first | apply o_move | apply o_assign); exact rfl; exact rfl) | ((with_reducible apply o_not); exact rfl; exact rfl) | ((with_reducible apply o_alloc); exact rfl; intro _) | ((with_reducible apply gdo_store); first | refine wo_store1 (h := ?_) | refine wo_storeA (h := ?_)) | ((with_reducible apply gdo_build); first | refine wo_build (h := ?_) | refine wo_buildA (h := ?_)) | ((with_reducible first | apply c_seq | apply c_block | apply c_region | apply c_nil | apply c_ret | apply c_exit | apply c_skip)) | ((with_reducible apply c_cond_t); exact rfl; exact tT_) | ((with_reducible first | apply e_then | apply e_then_ret | apply e_then_exit | apply e_in | apply e_in_ret | apply e_in_same)))
    (first | ((with_reducible apply r_M1); exact aT_; exact uP_; apply res2 Try.results8; exact rV_; exact rV_; intro w' hw) | ((with_reducible apply r_M0); apply res2 Try.results8; exact rV_; exact rV_; intro w' hw))
    exact ⟨_, [], rfl, makeφ_zero _, hw.sub (by exact hS_), by simp⟩
  have hm' := hm
  unfold Seq.machineOk at hm'
  obtain ⟨hm1, hm2⟩ := hm'
  by_cases hbig : 1000 < l.length
  · have e : Seq.makeF l caps = (.zero, 5) := by unfold Seq.makeF; rw [if_neg (fun h => h hm), if_pos hbig]
    rw [e]
    refine f_enterM2 Try.func8 rfl Try.ntmps8 rfl (Rep.start w) ?_
    repeat' (first | ((first | ((with_reducible apply o_call_pure (f := 22)); exact rfl) | ((with_reducible apply q_call_pure (f := 22)); exact rfl; kernel_rfl; exact rfl; exact sJ_)); exact eV_; exact (fun w hw => machine_yes hm w (hc.keep hw (by exact aO_)))) | ((with_reducible first | apply o_move | apply o_assign); exact rfl; exact rfl) | ((with_reducible first | apply o_lss | apply o_gtr | apply o_geq | apply o_eql | apply o_extract | apply o_min2); exact rfl; exact rfl; exact rfl) | ((with_reducible apply o_not); exact rfl; exact rfl) | ((with_reducible apply o_alloc); exact rfl; intro _) | ((with_reducible apply gdo_store); first | refine wo_store1 (h := ?_) | refine wo_storeA (h := ?_)) | ((with_reducible apply gdo_build); first | refine wo_build (h := ?_) | refine wo_buildA (h := ?_)) | ((with_reducible apply o_len); infer_instance; exact rfl; exact rfl) | ((with_reducible first | apply c_seq | apply c_block | apply c_region | apply c_nil | apply c_ret | apply c_exit | apply c_skip)) | ((with_reducible apply c_cond_t); exact rfl; exact tT_) | ((with_reducible apply c_cond_f); exact rfl; exact fF_) | ((with_reducible first | apply e_then | apply e_then_ret | apply e_then_exit | apply e_in | apply e_in_ret | apply e_in_same)))
    (first | ((with_reducible apply r_M1); exact aT_; exact uP_; apply res2 Try.results8; exact rV_; exact rV_; intro w' hw) | ((with_reducible apply r_M0); apply res2 Try.results8; exact rV_; exact rV_; intro w' hw))
    exact ⟨_, [], rfl, makeφ_zero _, hw.sub (by exact hS_), by simp⟩
  cases hr : Seq.wrongF [] 0 l with
  | some i =>
    have e : Seq.makeF l caps = (.zero, 281) := by unfold Seq.makeF; rw [if_neg (fun h => h hm), if_neg hbig, hr]
    rw [e]
    refine f_enterM2 Try.func8 rfl Try.ntmps8 rfl (Rep.start w) ?_
    repeat' (first | ((first | ((with_reducible apply o_call_pure (f := 22)); exact rfl) | ((with_reducible apply q_call_pure (f := 22)); exact rfl; kernel_rfl; exact rfl; exact sJ_)); exact eV_; exact (fun w hw => machine_yes hm w (hc.keep hw (by exact aO_)))) | ((first | ((with_reducible apply o_call_pure (f := 23)); exact rfl) | ((with_reducible apply q_call_pure (f := 23)); exact rfl; kernel_rfl; exact rfl; exact sJ_)); exact eV_; exact (fun w hw => wrong_some hr w (hs.keep hw (by exact aO_)))) | ((with_reducible first | apply o_move | apply o_assign); exact rfl; exact rfl) | ((with_reducible first | apply o_lss | apply o_gtr | apply o_geq | apply o_eql | apply o_extract | apply o_min2); exact rfl; exact rfl; exact rfl) | ((with_reducible apply o_not); exact rfl; exact rfl) | ((with_reducible apply o_alloc); exact rfl; intro _) | ((with_reducible apply gdo_store); first | refine wo_store1 (h := ?_) | refine wo_storeA (h := ?_)) | ((with_reducible apply gdo_build); first | refine wo_build (h := ?_) | refine wo_buildA (h := ?_)) | ((with_reducible apply o_len); infer_instance; exact rfl; exact rfl) | ((with_reducible first | apply c_seq | apply c_block | apply c_region | apply c_nil | apply c_ret | apply c_exit | apply c_skip)) | ((with_reducible apply c_cond_t); exact rfl; exact tT_) | ((with_reducible apply c_cond_f); exact rfl; exact fF_) | ((with_reducible first | apply e_then | apply e_then_ret | apply e_then_exit | apply e_in | apply e_in_ret | apply e_in_same)))
    (first | ((with_reducible apply r_M1); exact aT_; exact uP_; apply res2 Try.results8; exact rV_; exact rV_; intro w' hw) | ((with_reducible apply r_M0); apply res2 Try.results8; exact rV_; exact rV_; intro w' hw))
    exact ⟨_, [], rfl, makeφ_zero _, hw.sub (by exact hS_), by simp⟩
  | none =>
  have hroute := Seq.wrongF_none.1 hr
  by_cases hl0 : l = []
  · subst hl0
    have e : Seq.makeF [] caps = (⟨caps, [], List.replicate caps.length 0, List.replicate caps.length 0⟩, 0) := by unfold Seq.makeF; rw [if_neg (fun h => h hm), if_neg (by simp), hr, if_pos rfl]
    rw [e]
    refine f_enterM2 Try.func8 rfl Try.ntmps8 rfl (Rep.start w) ?_
    repeat' (first | ((first | ((with_reducible apply o_call_pure (f := 22)); exact rfl) | ((with_reducible apply q_call_pure (f := 22)); exact rfl; kernel_rfl; exact rfl; exact sJ_)); exact eV_; exact (fun w hw => machine_yes hm w (hc.keep hw (by exact aO_)))) | ((first | ((with_reducible apply o_call_pure (f := 23)); exact rfl) | ((with_reducible apply q_call_pure (f := 23)); exact rfl; kernel_rfl; exact rfl; exact sJ_)); exact eV_; exact (fun w hw => wrong_none hr w (hs.keep hw (by exact aO_)))) | ((first | ((with_reducible apply o_call_new (f := 24)); exact rfl) | ((with_reducible apply q_call_new (f := 24)); exact rfl; exact rfl; exact sJ_)); exact eV_; exact (fun w hw => loads_calls (n := caps.length) w SV.nil (by simp) (by omega) (by simp)); rintro v1 N1 ⟨x1, k1, x2, k2, M1, M2, rfl, g1, g2, rfl, o1, o2⟩ <;> (try simp only [List.cons_append, List.nil_append, List.append_assoc])) | ((first | ((with_reducible apply o_call_new (f := 25)); exact rfl) | ((with_reducible apply q_call_new (f := 25)); exact rfl; exact rfl; exact sJ_)); exact eV_; exact (fun w hw => clone_calls (hc.keep hw (by exact aO_)) (by omega)); rintro v3 N3 ⟨x3, k3, rfl, g3, o3⟩ <;> (try simp only [List.cons_append, List.nil_append])) | ((with_reducible first | apply o_move | apply o_assign); exact rfl; exact rfl) | ((with_reducible first | apply o_lss | apply o_gtr | apply o_geq | apply o_eql | apply o_extract | apply o_min2); exact rfl; exact rfl; exact rfl) | ((with_reducible apply o_not); exact rfl; exact rfl) | ((with_reducible apply o_alloc); exact rfl; intro _) | ((with_reducible apply gdo_store); first | refine wo_store1 (h := ?_) | refine wo_storeA (h := ?_)) | ((with_reducible apply gdo_build); first | refine wo_build (h := ?_) | refine wo_buildA (h := ?_)) | ((with_reducible apply o_len); infer_instance; exact rfl; exact rfl) | ((with_reducible first | apply c_seq | apply c_block | apply c_region | apply c_nil | apply c_ret | apply c_exit | apply c_skip)) | ((with_reducible apply c_cond_t); exact rfl; exact tT_) | ((with_reducible apply c_cond_f); exact rfl; exact fF_) | ((with_reducible first | apply e_then | apply e_then_ret | apply e_then_exit | apply e_in | apply e_in_ret | apply e_in_same)))
    (first | ((with_reducible apply r_M1); exact aT_; exact uP_; apply res2 Try.results8; exact rV_; exact rV_; intro w' hw) | ((with_reducible apply r_M0); apply res2 Try.results8; exact rV_; exact rV_; intro w' hw))
    refine ⟨_, _, rfl, makeφ_mk (p := ⟨caps, [], List.replicate caps.length 0, List.replicate caps.length 0⟩) rfl rfl (by simp) (by simp) g3 OW.nil g1 g2 0, hw.sub (by simp only [List.nil_append]; exact hS_), ?_⟩
    intro x hx
    simp only [List.mem_append, List.not_mem_nil, false_or] at hx
    rcases hx with hx | hx | hx
    · exact o3 x hx
    · exact o1 x hx
    · exact o2 x hx
  have e : Seq.makeF l caps = Seq.limits l caps (min caps.length l.length) := by unfold Seq.makeF; rw [if_neg (fun h => h hm), if_neg hbig, hr, if_neg hl0]
  have hl1 : 1 ≤ l.length := List.length_pos_iff.2 hl0
  have hmin : (if (l.length : Int) < (caps.length : Int) then (l.length : Int) else (caps.length : Int)) = ((min caps.length l.length : Nat) : Int) := by split <;> omega
  refine f_enterM2 Try.func8 rfl Try.ntmps8 rfl (Rep.start w) ?_
  repeat' (first | ((first | ((with_reducible apply o_call_pure (f := 22)); exact rfl) | ((with_reducible apply q_call_pure (f := 22)); exact rfl; kernel_rfl; exact rfl; exact sJ_)); exact eV_; exact (fun w hw => machine_yes hm w (hc.keep hw (by exact aO_)))) | ((first | ((with_reducible apply o_call_pure (f := 23)); exact rfl) | ((with_reducible apply q_call_pure (f := 23)); exact rfl; kernel_rfl; exact rfl; exact sJ_)); exact eV_; exact (fun w hw => wrong_none hr w (hs.keep hw (by exact aO_)))) | ((with_reducible first | apply o_move | apply o_assign); exact rfl; exact rfl) | ((with_reducible first | apply o_lss | apply o_gtr | apply o_geq | apply o_eql | apply o_extract | apply o_min2); exact rfl; exact rfl; exact rfl) | ((with_reducible apply o_not); exact rfl; exact rfl) | ((with_reducible apply o_alloc); exact rfl; intro _) | ((with_reducible apply o_len); infer_instance; exact rfl; exact rfl) | ((with_reducible first | apply c_seq | apply c_block | apply c_region | apply c_nil | apply c_ret | apply c_exit | apply c_skip)) | ((with_reducible apply c_cond_f); exact rfl; exact fF_) | ((with_reducible first | apply e_then | apply e_then_ret | apply e_then_exit | apply e_in | apply e_in_ret | apply e_in_same)))
  rename_i b4
  rw [hmin]
  apply c_loopD (σ := Nat × List Nat) (Ds := fun s => s.2.map Sx.mark) (Fs := fun s => [(10, .int .i64 s.1), (0, .slice ao l.length cs), (1, .slice av caps.length cv), (4, ptr b4)])
    (Ls := fun s => ⟨b4, Ce [.slice none 0 0, .slice none 0 0, .slice none 0 0, .slice none 0 0] 51, true⟩ :: (MB s.2 ++ []))
    (I := fun s => s.1 ≤ min caps.length l.length ∧ Seq.makeF l caps = Seq.limits l caps s.1) (μ := fun s => s.1) (s0 := (min caps.length l.length, []))
  · exact ⟨Nat.le_refl _, e⟩
  · rfl
  · exact fS_
  · exact HSub.same
  rintro ⟨L, bds⟩ ⟨hL, hlim⟩
  simp only [] at hL hlim ⊢
  have hMB := MB_own bds
  have hMBn := MBn_own bds
  rcases L with _ | L
  · rw [hlim, Seq.limits]
    repeat' (first | ((with_reducible first | apply o_move | apply o_assign); exact rfl; exact rfl) | ((with_reducible first | apply o_lss | apply o_gtr | apply o_geq | apply o_eql | apply o_extract | apply o_min2); exact rfl; exact rfl; exact rfl) | ((with_reducible apply gdo_store); first | refine wo_store1 (h := ?_) | refine wo_storeA (h := ?_)) | ((with_reducible apply gdo_build); first | refine wo_build (h := ?_) | refine wo_buildA (h := ?_)) | ((with_reducible first | apply c_seq | apply c_block | apply c_region | apply c_nil | apply c_ret | apply c_exit | apply c_skip)) | ((with_reducible apply c_cond_f); exact rfl; exact fF_) | ((with_reducible first | apply e_then | apply e_then_ret | apply e_then_exit | apply e_in | apply e_in_ret | apply e_in_same)))
    (apply r_Mk (bds := bds); (first | (simp only [MB_cons]; apply RemL.cons; (focus (repeat (first | exact Rem.hd | apply Rem.tl | apply Rem.right))); exact rL_) | exact rL_); apply res2 Try.results8; exact rV_; exact rV_; intro w' hw)
    exact ⟨_, [], rfl, makeφ_zero _, hw.sub (by exact hS_), by simp⟩
  repeat' (first | ((first | ((with_reducible apply o_call_new (f := 26)); exact rfl) | ((with_reducible apply q_call_new (f := 26)); exact rfl; exact rfl; exact sJ_)); exact eV_; exact (fun w _ => along_calls _ _ _ _ _ _ _ w); rintro v N ⟨b3, b6, b5, rfl, rfl⟩ <;> (try simp only [List.cons_append, List.nil_append])) | ((with_reducible first | apply o_move | apply o_assign); exact rfl; exact rfl) | ((with_reducible first | apply o_lss | apply o_gtr | apply o_geq | apply o_eql | apply o_extract | apply o_min2); exact rfl; exact rfl; exact rfl) | ((with_reducible apply o_alloc); exact rfl; intro _) | ((with_reducible apply gdo_store); first | refine wo_store1 (h := ?_) | refine wo_storeA (h := ?_)) | ((with_reducible apply o_len); infer_instance; exact rfl; exact rfl) | ((with_reducible apply gdo_makeSlice); refine wo_makeSlice (h := fun _ => ?_)) | ((with_reducible first | apply c_seq | apply c_block | apply c_region | apply c_nil | apply c_ret | apply c_exit | apply c_skip)) | ((with_reducible apply c_cond_t); exact rfl; exact tT_) | ((with_reducible first | apply e_then | apply e_then_ret | apply e_then_exit | apply e_in | apply e_in_ret | apply e_in_same)))
  rename_i br b11
  apply c_post (σ := Nat × (Option Addr × Nat) × List Ent) (Ds := fun s => Sx.mark s.1 :: bds.map Sx.mark)
    (Fs := fun s => [(11, ptr b11), (10, .int .i64 ((L + 1 : Nat) : Int)), (0, .slice ao l.length cs), (1, .slice av caps.length cv), (4, ptr b4)])
    (Ls := fun s => ⟨b11, Ce [.slice s.2.1.1 (Seq.rule (L + 1) l caps).length s.2.1.2] 49, true⟩ :: ⟨s.1, .deferred (some []), true⟩ :: (s.2.2 ++ (⟨b4, Ce [.slice none 0 0, .slice none 0 0, .slice none 0 0, .slice none 0 0] 51, true⟩ :: (MB bds ++ []))))
    (I := fun s => OW 97 4 encSeat (.slice s.2.1.1 (Seq.rule (L + 1) l caps).length s.2.1.2) (Seq.rule (L + 1) l caps) s.2.2)
  · (apply c_rangeFunc3; exact rfl; infer_instance; exact rfl; exact Try.ntmps33; exact rfl; intro lp bd Z a1 ha1 hZ)
    repeat' (first | ((with_reducible first | apply o_move | apply o_assign | apply o_faddr0); exact rfl; exact rfl) | ((with_reducible apply gdo_load); first | refine wo_load (h := ?_) | refine wo_loadAll (h := ?_) | refine wo_loadC (h := ?_) | refine wo_ldV (h := ?_)) | ((with_reducible apply o_len); infer_instance; exact rfl; exact rfl) | ((with_reducible first | apply c_seq | apply c_block | apply c_region | apply c_nil | apply c_ret | apply c_exit | apply c_skip)) | ((with_reducible first | apply e_then | apply e_then_ret | apply e_then_exit | apply e_in | apply e_in_ret | apply e_in_same)))
    have hlz : (List.replicate l.length [Value.int .i64 0, .int .i64 0, .int .i64 0, .int .i64 0]).flatten.length = l.length * 4 := by simp
    have h0 : OW 97 4 encSeat (.slice (some ⟨br, 0, none⟩) 0 l.length) [] [⟨br, Ce (List.replicate l.length [Value.int .i64 0, .int .i64 0, .int .i64 0, .int .i64 0]).flatten 97, true⟩] :=
      OW.row (xs := []) (s := (List.replicate l.length [Value.int .i64 0, .int .i64 0, .int .i64 0, .int .i64 0]).flatten) hlz ⟨Nat.zero_le _, by simp⟩
    apply c_loop (σ := Nat × (Nat × Nat × Int) × List Seq.Seat × (Option Addr × Nat) × List Ent)
      (Fs := fun t => [(12, .int .i64 t.1), (11, .int .i64 l.length), (10, .slice ao l.length cs), (7, .int .i64 t.2.1.2.2), (6, .int .i64 t.2.1.2.1), (5, .int .i64 t.2.1.1), (0, .func (.yield lp) #[] #[]), (1, ptr b3), (2, ptr b5), (3, ptr b6)])
      (Ls := fun t => ⟨lp, Z .ready none, true⟩ :: ⟨bd, .deferred (some []), true⟩ :: ⟨b5, Ce [.int .i64 ((L + 1 : Nat) : Int)] 3, true⟩ :: ⟨b6, Ce [.slice av caps.length cv] 34, true⟩ :: ⟨b3, Ce [.slice ao l.length cs] 46, true⟩ :: ⟨b11, Ce [.slice t.2.2.2.1.1 t.2.2.1.length t.2.2.2.1.2] 49, true⟩ :: (t.2.2.2.2 ++ (⟨b4, Ce [.slice none 0 0, .slice none 0 0, .slice none 0 0, .slice none 0 0] 51, true⟩ :: (MB bds ++ []))))
      (I := fun t => t.1 ≤ l.length ∧ OW 97 4 encSeat (.slice t.2.2.2.1.1 t.2.2.1.length t.2.2.2.1.2) t.2.2.1 t.2.2.2.2 ∧ (t.2.1.1 < caps.length ∧ t.2.1.2.1 ≤ t.1 ∧ 0 ≤ t.2.1.2.2 ∧ t.2.1.2.2 ≤ 10000 * t.1) ∧ t.2.2.1.length = t.1 ∧ Seq.rule (L + 1) l caps = t.2.2.1 ++ Seq.alongF (L + 1) (l.drop t.1) t.2.1.1 t.2.1.2.1 t.2.1.2.2 (caps.drop t.2.1.1))
      (μ := fun t => l.length - t.1) (s0 := (0, (0, 0, 0), [], (some ⟨br, 0, none⟩, l.length), [⟨br, Ce (List.replicate l.length [Value.int .i64 0, .int .i64 0, .int .i64 0, .int .i64 0]).flatten 97, true⟩]))
    · exact ⟨Nat.zero_le _, h0, ⟨by simp only []; omega, Nat.le_refl _, Int.le_refl _, by simp⟩, rfl, by simp [Seq.rule]⟩
    · exact fS_
    · exact hS_
    rintro ⟨i, ⟨cur, held, load⟩, seats, ⟨ad, cp⟩, N⟩ ⟨hi, hO, ⟨hcur, hheld, hld0, hld1⟩, hsl, hrule⟩
    simp only [] at hi hO hcur hheld hld0 hld1 hsl hrule ⊢
    have hN := hO.own
    by_cases hlt : i < l.length
    · obtain ⟨s, hx⟩ : ∃ s, l[i]? = some s := ⟨_, List.getElem?_eq_getElem hlt⟩
      obtain ⟨bs, offs, ccs, es, fzs, rfl, hks, hps⟩ := hops (by omega)
      have g1 := hps.get hx
      have hok := hroute.1 s (List.mem_of_getElem? hx)
      unfold Seq.Stop.ok at hok
      rw [drop_at hx, Seq.alongF] at hrule
      repeat' (first | ((with_reducible apply gdo_load); first | refine wo_load (h := ?_) | refine wo_loadAll (h := ?_) | refine wo_loadC (h := ?_) | refine wo_ldV (h := ?_)) | ((with_reducible first | apply o_lss | apply o_gtr | apply o_geq | apply o_eql | apply o_extract | apply o_min2); exact rfl; exact rfl; exact rfl) | ((with_reducible apply o_alloc); exact rfl; intro _) | ((with_reducible apply gdo_store); first | refine wo_store1 (h := ?_) | refine wo_storeA (h := ?_)) | ((with_reducible apply o_idx); infer_instance; infer_instance; exact rfl; exact rfl; (first | exact rfl | omega); exact rfl; (first | assumption | omega | decide)) | ((with_reducible first | apply c_seq | apply c_block | apply c_region | apply c_nil | apply c_ret | apply c_exit | apply c_skip)) | ((with_reducible apply c_cond_t); exact rfl; exact tT_) | ((with_reducible first | apply e_then | apply e_then_ret | apply e_then_exit | apply e_in | apply e_in_ret | apply e_in_same)))
      rename_i b9
      apply c_loop (σ := Nat × Nat × Int)
        (Fs := fun t => [(12, .int .i64 i), (11, .int .i64 l.length), (10, .slice (some ⟨bs, offs, none⟩) l.length cs), (9, ptr b9), (7, .int .i64 t.2.2), (6, .int .i64 t.2.1), (5, .int .i64 t.1), (0, .func (.yield lp) #[] #[]), (1, ptr b3), (2, ptr b5), (3, ptr b6)])
        (Ls := fun t => ⟨b9, Ce [.int .i64 s.id, .int .i64 s.vol] 48, true⟩ :: ⟨lp, Z .ready none, true⟩ :: ⟨bd, .deferred (some []), true⟩ :: ⟨b5, Ce [.int .i64 ((L + 1 : Nat) : Int)] 3, true⟩ :: ⟨b6, Ce [.slice av caps.length cv] 34, true⟩ :: ⟨b3, Ce [.slice (some ⟨bs, offs, none⟩) l.length cs] 46, true⟩ :: ⟨b11, Ce [.slice ad seats.length cp] 49, true⟩ :: (N ++ (⟨b4, Ce [.slice none 0 0, .slice none 0 0, .slice none 0 0, .slice none 0 0] 51, true⟩ :: (MB bds ++ []))))
        (I := fun t => (t.1 < caps.length ∧ t.2.1 ≤ i ∧ 0 ≤ t.2.2 ∧ t.2.2 ≤ 10000 * i) ∧ Seq.place (L + 1) s.vol cur held load (caps.drop cur) = Seq.place (L + 1) s.vol t.1 t.2.1 t.2.2 (caps.drop t.1))
        (μ := fun t => caps.length - t.1) (s0 := (cur, held, load))
      · exact ⟨⟨hcur, hheld, hld0, hld1⟩, rfl⟩
      · exact fS_
      · exact hS_
      rintro ⟨cur2, held2, load2⟩ ⟨⟨hcur2, hheld2, hl20, hl21⟩, hplace⟩
      simp only [] at hcur2 hheld2 hl20 hl21 hplace ⊢
      obtain ⟨c, hy⟩ : ∃ c, caps[cur2]? = some c := ⟨_, List.getElem?_eq_getElem hcur2⟩
      obtain ⟨bv, offv, ccv, ev', fzv, rfl, hkv, hpv⟩ := hopv (by omega)
      have g2 := hpv.one hy rfl
      have hcb := hm2 c (List.mem_of_getElem? hy)
      rw [drop_at hy] at hplace
      by_cases hstay : held2 < L + 1 ∧ load2 + s.vol ≤ c
      · rw [place_stay hstay] at hplace
        rw [hplace] at hrule
        simp only [] at hrule
        rw [← drop_at hy] at hrule
        repeat' (first | ((with_reducible apply o_yield); exact rfl; exact eV_; assumption; assumption; exact aT_; exact rfl; exact rfl; (repeat (first | exact RPar.nil | apply RPar.cons)); intro aI haI) | ((with_reducible apply e_begin); assumption; exact aT_; exact uP_) | (first | ((with_reducible apply e_round); assumption; exact rfl; assumption; exact aT_; exact uP_) | ((with_reducible apply e_round_ret); assumption; exact rfl; assumption; exact aT_; exact uP_) | ((with_reducible apply e_round_exit); assumption; exact rfl; assumption; exact aT_; exact uP_)) | (first | apply r_iter Try.results33 | apply r_iter' Try.results33) | (first | ((with_reducible apply e_range); assumption; assumption; exact aT_; (intro hst; cases hst); exact uP_) | ((with_reducible apply e_rangeJ); assumption; assumption; exact aT_; (intro hst; cases hst); exact uP_)) | (apply o_appH (enc := encSeat) (ys := [(⟨s.id, s.vol, held2, cur2⟩ : Seq.Seat)]); infer_instance; infer_instance; infer_instance; exact rfl; exact encSeat_len; exact encSeat_one; exact rfl; exact rfl; exact rfl; assumption; exact rL_; (exact fun w hw => SV.lit [(⟨s.id, s.vol, held2, cur2⟩ : Seq.Seat)] encSeat_len hw (by exact aT_) rfl rfl (by decide)); (first | decide | (constructor <;> (try simp only [List.length_cons, List.length_nil]) <;> omega) | (constructor <;> simp <;> omega)); intro _ _ _ _) | ((with_reducible first | apply o_move | apply o_assign | apply o_faddr0); exact rfl; exact rfl) | ((with_reducible apply gdo_load); first | refine wo_load (h := ?_) | refine wo_loadAll (h := ?_) | refine wo_loadC (h := ?_) | refine wo_ldV (h := ?_)) | ((with_reducible apply o_not); exact rfl; exact rfl) | ((with_reducible first | apply o_add | apply o_sub); exact rfl; exact rfl; exact rfl; (constructor <;> omega)) | ((with_reducible apply o_alloc); exact rfl; intro _) | ((with_reducible apply gdo_store); first | refine wo_store1 (h := ?_) | refine wo_storeA (h := ?_)) | ((with_reducible apply gdo_build); first | refine wo_build (h := ?_) | refine wo_buildA (h := ?_)) | ((with_reducible apply gdo_buildSlice); refine wo_buildSlice (h := fun _ => ?_)) | ((with_reducible first | apply c_seq | apply c_block | apply c_region | apply c_nil | apply c_ret | apply c_exit | apply c_skip)) | ((with_reducible apply c_cond_f); exact rfl; exact fF_) | ((with_reducible first | apply e_then | apply e_then_ret | apply e_then_exit | apply e_in | apply e_in_ret | apply e_in_same)) | ((with_reducible apply c_regionD0 (id := 4) []); kernel_rfl; kernel_rfl) | ((with_reducible apply q_nil); try simp only [ents, List.cons_append, List.nil_append]) | ((with_reducible first | apply q_move | apply q_assign | apply q_faddr0 | apply q_not_d); exact rfl; exact rfl) | ((with_reducible apply gdq_load); first | refine wq_load (h := ?_) | refine wq_loadAll (h := ?_) | refine wq_loadC (h := ?_)) | ((with_reducible first | apply q_lss | apply q_gtr | apply q_geq); exact rfl; exact rfl; exact rfl) | ((with_reducible first | apply q_add | apply q_sub); exact rfl; exact rfl; exact rfl; (constructor <;> omega)) | ((with_reducible apply q_pick_f); exact rfl; exact fF_; exact rfl; exact rfl) | ((with_reducible apply q_idx); infer_instance; infer_instance; exact rfl; exact rfl; (first | exact rfl | omega); exact rfl; (first | assumption | omega | decide)) | ((with_reducible first | apply h_run); exact rfl; exact gG_))
        rename_i b12 a' cp' N' hO'
        refine l_again (i + 1, (cur2, held2 + 1, load2 + s.vol), seats ++ [⟨s.id, s.vol, held2, cur2⟩], (a', cp'), N') ⟨by simp only []; omega, hO', ⟨hcur2, by simp only []; omega, by simp only []; omega, by simp only []; omega⟩, by simp only [List.length_append, List.length_cons, List.length_nil]; omega, ?_⟩ (by simp only []; omega) ?_ ?_
        · simp only [List.append_assoc, List.cons_append, List.nil_append]
          exact hrule
        · exact fS_
        · exact hS_
      · rw [place_go hstay] at hplace
        by_cases hlast : cur2 + 1 < caps.length
        · repeat' (first | ((with_reducible first | apply o_move | apply o_assign | apply o_faddr0); exact rfl; exact rfl) | ((with_reducible apply gdo_load); first | refine wo_load (h := ?_) | refine wo_loadAll (h := ?_) | refine wo_loadC (h := ?_) | refine wo_ldV (h := ?_)) | ((with_reducible first | apply o_lss | apply o_gtr | apply o_geq | apply o_eql | apply o_extract | apply o_min2); exact rfl; exact rfl; exact rfl) | ((with_reducible first | apply o_add | apply o_sub); exact rfl; exact rfl; exact rfl; (constructor <;> omega)) | ((with_reducible apply o_len); infer_instance; exact rfl; exact rfl) | ((with_reducible first | apply c_seq | apply c_block | apply c_region | apply c_nil | apply c_ret | apply c_exit | apply c_skip)) | ((with_reducible apply c_cond_t); exact rfl; exact tT_) | ((with_reducible apply c_cond_f); exact rfl; exact fF_) | ((with_reducible first | apply e_then | apply e_then_ret | apply e_then_exit | apply e_in | apply e_in_ret | apply e_in_same)) | ((with_reducible apply c_regionD0 (id := 4) []); kernel_rfl; kernel_rfl) | ((with_reducible apply q_nil); try simp only [ents, List.cons_append, List.nil_append]) | ((with_reducible first | apply q_move | apply q_assign | apply q_faddr0 | apply q_not_d); exact rfl; exact rfl) | ((with_reducible apply gdq_load); first | refine wq_load (h := ?_) | refine wq_loadAll (h := ?_) | refine wq_loadC (h := ?_)) | ((with_reducible first | apply q_lss | apply q_gtr | apply q_geq); exact rfl; exact rfl; exact rfl) | ((with_reducible first | apply q_add | apply q_sub); exact rfl; exact rfl; exact rfl; (constructor <;> omega)) | ((with_reducible apply q_pick_t); exact rfl; exact tT_; exact rfl; exact rfl) | ((with_reducible apply q_pick_f); exact rfl; exact fF_; exact rfl; exact rfl) | ((with_reducible apply q_idx); infer_instance; infer_instance; exact rfl; exact rfl; (first | exact rfl | omega); exact rfl; (first | assumption | omega | decide)) | ((with_reducible first | apply h_run); exact rfl; exact gG_) | ((with_reducible apply h_skip); exact rfl; exact gG_; exact rfl) | ((with_reducible apply h_split_d); exact rfl; intro hcond; rotate_left; intro hcond; rotate_left))
          all_goals first
            | (exfalso; omega)
            | (refine l_again (cur2 + 1, 0, 0) ⟨⟨hlast, Nat.zero_le _, Int.le_refl _, by simp only []; omega⟩, hplace⟩ (by simp only []; omega) ?_ ?_
               · exact fS_
               · exact hS_)
        · rw [List.drop_of_length_le (show caps.length ≤ cur2 + 1 by omega), Seq.place] at hplace
          rw [hplace] at hrule
          simp only [List.append_nil] at hrule
          repeat' (first | ((with_reducible apply o_yield); exact rfl; exact eV_; assumption; assumption; exact aT_; exact rfl; exact rfl; (repeat (first | exact RPar.nil | apply RPar.cons)); intro aI haI) | ((with_reducible apply e_begin); assumption; exact aT_; exact uP_) | (first | ((with_reducible apply e_round); assumption; exact rfl; assumption; exact aT_; exact uP_) | ((with_reducible apply e_round_ret); assumption; exact rfl; assumption; exact aT_; exact uP_) | ((with_reducible apply e_round_exit); assumption; exact rfl; assumption; exact aT_; exact uP_)) | (first | apply r_iter Try.results33 | apply r_iter' Try.results33) | (first | ((with_reducible apply e_range); assumption; assumption; exact aT_; (intro hst; cases hst); exact uP_) | ((with_reducible apply e_rangeJ); assumption; assumption; exact aT_; (intro hst; cases hst); exact uP_)) | ((with_reducible first | apply o_move | apply o_assign | apply o_faddr0); exact rfl; exact rfl) | ((with_reducible apply gdo_load); first | refine wo_load (h := ?_) | refine wo_loadAll (h := ?_) | refine wo_loadC (h := ?_) | refine wo_ldV (h := ?_)) | ((with_reducible first | apply o_lss | apply o_gtr | apply o_geq | apply o_eql | apply o_extract | apply o_min2); exact rfl; exact rfl; exact rfl) | ((with_reducible first | apply o_add | apply o_sub); exact rfl; exact rfl; exact rfl; (constructor <;> omega)) | ((with_reducible apply o_len); infer_instance; exact rfl; exact rfl) | ((with_reducible first | apply c_seq | apply c_block | apply c_region | apply c_nil | apply c_ret | apply c_exit | apply c_skip)) | ((with_reducible apply c_cond_t); exact rfl; exact tT_) | ((with_reducible first | apply e_then | apply e_then_ret | apply e_then_exit | apply e_in | apply e_in_ret | apply e_in_same)) | ((with_reducible apply c_regionD0 (id := 4) []); kernel_rfl; kernel_rfl) | ((with_reducible apply q_nil); try simp only [ents, List.cons_append, List.nil_append]) | ((with_reducible first | apply q_move | apply q_assign | apply q_faddr0 | apply q_not_d); exact rfl; exact rfl) | ((with_reducible apply gdq_load); first | refine wq_load (h := ?_) | refine wq_loadAll (h := ?_) | refine wq_loadC (h := ?_)) | ((with_reducible first | apply q_lss | apply q_gtr | apply q_geq); exact rfl; exact rfl; exact rfl) | ((with_reducible first | apply q_add | apply q_sub); exact rfl; exact rfl; exact rfl; (constructor <;> omega)) | ((with_reducible apply q_pick_t); exact rfl; exact tT_; exact rfl; exact rfl) | ((with_reducible apply q_pick_f); exact rfl; exact fF_; exact rfl; exact rfl) | ((with_reducible apply q_idx); infer_instance; infer_instance; exact rfl; exact rfl; (first | exact rfl | omega); exact rfl; (first | assumption | omega | decide)) | ((with_reducible first | apply h_run); exact rfl; exact gG_) | ((with_reducible apply h_skip); exact rfl; exact gG_; exact rfl) | ((with_reducible apply h_split_d); exact rfl; intro hcond; rotate_left; intro hcond; rotate_left))
          all_goals first
            | (exfalso; omega)
            | (refine l_meetD (bd, (ad, cp), N) (by simp only []; rw [hrule]; exact hO) rfl ?_ ?_
               · exact fS_
               · simp only [hrule]; exact hS_)
    · rw [List.drop_of_length_le (by omega), Seq.alongF, List.append_nil] at hrule
      repeat' (first | ((with_reducible apply o_yield); exact rfl; exact eV_; assumption; assumption; exact aT_; exact rfl; exact rfl; (repeat (first | exact RPar.nil | apply RPar.cons)); intro aI haI) | ((with_reducible apply e_begin); assumption; exact aT_; exact uP_) | (first | ((with_reducible apply e_round); assumption; exact rfl; assumption; exact aT_; exact uP_) | ((with_reducible apply e_round_ret); assumption; exact rfl; assumption; exact aT_; exact uP_) | ((with_reducible apply e_round_exit); assumption; exact rfl; assumption; exact aT_; exact uP_)) | (first | apply r_iter Try.results33 | apply r_iter' Try.results33) | (first | ((with_reducible apply e_range); assumption; assumption; exact aT_; (intro hst; cases hst); exact uP_) | ((with_reducible apply e_rangeJ); assumption; assumption; exact aT_; (intro hst; cases hst); exact uP_)) | ((with_reducible first | apply o_lss | apply o_gtr | apply o_geq | apply o_eql | apply o_extract | apply o_min2); exact rfl; exact rfl; exact rfl) | ((with_reducible first | apply c_seq | apply c_block | apply c_region | apply c_nil | apply c_ret | apply c_exit | apply c_skip)) | ((with_reducible apply c_cond_f); exact rfl; exact fF_) | ((with_reducible first | apply e_then | apply e_then_ret | apply e_then_exit | apply e_in | apply e_in_ret | apply e_in_same)))
      refine l_meetD (bd, (ad, cp), N) (by simp only []; rw [hrule]; exact hO) rfl ?_ ?_
      · exact fS_
      · simp only [hrule]; exact hS_
  · rintro ⟨bd, ⟨ad, cp⟩, N⟩ hO
    dsimp only at hO ⊢
    have hN := hO.own
    have hsub : ((L + 1 : Nat) : Int) - 1 = (L : Int) := by omega
    have hrl := Seq.rule_len (L + 1) l caps
    have hrr := Seq.rule_range (limit := L + 1) (l := l) (caps := caps) (by omega) hroute.1
    rw [Seq.limits] at hlim
    by_cases hshort : (Seq.rule (L + 1) l caps).length < l.length
    · rw [if_pos hshort] at hlim
      repeat' (first | ((with_reducible first | apply o_move | apply o_assign | apply o_faddr0); exact rfl; exact rfl) | ((with_reducible apply gdo_load); first | refine wo_load (h := ?_) | refine wo_loadAll (h := ?_) | refine wo_loadC (h := ?_) | refine wo_ldV (h := ?_)) | ((with_reducible first | apply o_lss | apply o_gtr | apply o_geq | apply o_eql | apply o_extract | apply o_min2); exact rfl; exact rfl; exact rfl) | ((with_reducible first | apply o_add | apply o_sub); exact rfl; exact rfl; exact rfl; (constructor <;> omega)) | ((with_reducible apply o_len); infer_instance; exact rfl; exact rfl) | ((with_reducible first | apply c_seq | apply c_block | apply c_region | apply c_nil | apply c_ret | apply c_exit | apply c_skip)) | ((with_reducible apply c_cond_t); exact rfl; exact tT_) | ((with_reducible first | apply e_then | apply e_then_ret | apply e_then_exit | apply e_in | apply e_in_ret | apply e_in_same)))
      rw [hsub]
      refine l_againD (L, bd :: bds) ⟨by simp only []; omega, hlim⟩ (by simp only []; omega) rfl ?_ ?_
      · exact fS_
      · simp only [MB_cons, List.cons_append]; exact hS_
    · rw [if_neg hshort] at hlim
      cases hov : Seq.overF 0 caps (Seq.loadsF Seq.Seat.first caps.length (Seq.rule (L + 1) l caps)) (Seq.loadsF Seq.Seat.second caps.length (Seq.rule (L + 1) l caps)) with
      | some k =>
        rw [hov] at hlim
        simp only [] at hlim
        repeat' (first | ((first | ((with_reducible apply o_call_new (f := 24)); exact rfl) | ((with_reducible apply q_call_new (f := 24)); exact rfl; exact rfl; exact sJ_)); exact eV_; exact (fun w hw => loads_calls (n := caps.length) w (hO.sv encSeat_len (by exact rL_) hw) (by omega) (by omega) hrr); rintro v1 N1 ⟨x1, k1, x2, k2, M1, M2, rfl, g1, g2, rfl, o1, o2⟩ <;> (try simp only [List.cons_append, List.nil_append, List.append_assoc])) | ((first | ((with_reducible apply o_call_pure (f := 27)); exact rfl) | ((with_reducible apply q_call_pure (f := 27)); exact rfl; kernel_rfl; exact rfl; exact sJ_)); exact eV_; exact (fun w hw => over_some hov w (hc.keep hw (by exact aO_)) (g1.sv encI_len (by exact rL_) hw) (g2.sv encI_len (by exact rL_) hw) (Seq.loadsF_len _ _ _) (Seq.loadsF_len _ _ _))) | ((with_reducible first | apply o_move | apply o_assign | apply o_faddr0); exact rfl; exact rfl) | ((with_reducible apply gdo_load); first | refine wo_load (h := ?_) | refine wo_loadAll (h := ?_) | refine wo_loadC (h := ?_) | refine wo_ldV (h := ?_)) | ((with_reducible first | apply o_lss | apply o_gtr | apply o_geq | apply o_eql | apply o_extract | apply o_min2); exact rfl; exact rfl; exact rfl) | ((with_reducible apply o_not); exact rfl; exact rfl) | ((with_reducible first | apply o_add | apply o_sub); exact rfl; exact rfl; exact rfl; (constructor <;> omega)) | ((with_reducible apply o_len); infer_instance; exact rfl; exact rfl) | ((with_reducible first | apply c_seq | apply c_block | apply c_region | apply c_nil | apply c_ret | apply c_exit | apply c_skip)) | ((with_reducible apply c_cond_f); exact rfl; exact fF_) | ((with_reducible first | apply e_then | apply e_then_ret | apply e_then_exit | apply e_in | apply e_in_ret | apply e_in_same)))
        rw [hsub]
        refine l_againD (L, bd :: bds) ⟨by simp only []; omega, hlim⟩ (by simp only []; omega) rfl ?_ ?_
        · exact fS_
        · simp only [MB_cons, List.cons_append]; exact hS_
      | none =>
        rw [hov] at hlim
        simp only [] at hlim
        rw [hlim]
        have hMBn2 := MBn_own (bd :: bds)
        repeat' (first | ((first | ((with_reducible apply o_call_new (f := 24)); exact rfl) | ((with_reducible apply q_call_new (f := 24)); exact rfl; exact rfl; exact sJ_)); exact eV_; exact (fun w hw => loads_calls (n := caps.length) w (hO.sv encSeat_len (by exact rL_) hw) (by omega) (by omega) hrr); rintro v1 N1 ⟨x1, k1, x2, k2, M1, M2, rfl, g1, g2, rfl, o1, o2⟩ <;> (try simp only [List.cons_append, List.nil_append, List.append_assoc])) | ((first | ((with_reducible apply o_call_pure (f := 27)); exact rfl) | ((with_reducible apply q_call_pure (f := 27)); exact rfl; kernel_rfl; exact rfl; exact sJ_)); exact eV_; exact (fun w hw => over_none hov w (hc.keep hw (by exact aO_)) (g1.sv encI_len (by exact rL_) hw) (g2.sv encI_len (by exact rL_) hw) (Seq.loadsF_len _ _ _) (Seq.loadsF_len _ _ _))) | ((with_reducible apply c_regionD0 (id := 22) [(1, fun v N => ∃ a cap, v = .slice a caps.length cap ∧ OW 3 1 encI (.slice a caps.length cap) caps N ∧ ∀ x ∈ N, x.own = true)]); kernel_rfl; kernel_rfl) | ((first | ((with_reducible apply o_call_new (f := 25)); exact rfl) | ((with_reducible apply q_call_new (f := 25)); exact rfl; exact rfl; exact sJ_)); exact eV_; exact (fun w hw => clone_calls (hc.keep hw (by exact aO_)) (by omega)); rintro v3 N3 ⟨x3, k3, rfl, g3, o3⟩ <;> (try simp only [List.cons_append, List.nil_append])) | ((with_reducible first | apply o_move | apply o_assign | apply o_faddr0); exact rfl; exact rfl) | ((with_reducible apply gdo_load); first | refine wo_load (h := ?_) | refine wo_loadAll (h := ?_) | refine wo_loadC (h := ?_) | refine wo_ldV (h := ?_)) | ((with_reducible first | apply o_lss | apply o_gtr | apply o_geq | apply o_eql | apply o_extract | apply o_min2); exact rfl; exact rfl; exact rfl) | ((with_reducible apply o_not); exact rfl; exact rfl) | ((with_reducible apply o_len); infer_instance; exact rfl; exact rfl) | ((with_reducible first | apply c_seq | apply c_block | apply c_region | apply c_nil | apply c_ret | apply c_exit | apply c_skip)) | ((with_reducible apply c_cond_t); exact rfl; exact tT_) | ((with_reducible apply c_cond_f); exact rfl; exact fF_) | ((with_reducible first | apply e_then | apply e_then_ret | apply e_then_exit | apply e_in | apply e_in_ret | apply e_in_same)) | ((with_reducible apply q_nil); try simp only [ents, List.cons_append, List.nil_append]) | ((with_reducible first | apply q_move | apply q_assign | apply q_faddr0 | apply q_not_d); exact rfl; exact rfl) | ((with_reducible apply gdq_load); first | refine wq_load (h := ?_) | refine wq_loadAll (h := ?_) | refine wq_loadC (h := ?_)) | ((with_reducible apply gdq_build); first | refine wq_build (h := ?_)) | ((with_reducible apply gdq_store); first | refine wq_storeA (h := ?_) | refine wq_storeAE (h := ?_)))
        (apply r_Mk (bds := (bd :: bds)); (first | (simp only [MB_cons]; apply RemL.cons; (focus (repeat (first | exact Rem.hd | apply Rem.tl | apply Rem.right))); exact rL_) | exact rL_); apply res2 Try.results8; exact rV_; exact rV_; intro w' hw)
        refine ⟨_, _, rfl, makeφ_mk (p := ⟨caps, Seq.rule (L + 1) l caps, Seq.loadsF Seq.Seat.first caps.length (Seq.rule (L + 1) l caps), Seq.loadsF Seq.Seat.second caps.length (Seq.rule (L + 1) l caps)⟩) rfl rfl (Seq.loadsF_len _ _ _) (Seq.loadsF_len _ _ _) g3 hO g1 g2 0, hw.sub (by exact hS_), ?_⟩
        intro x hx
        simp only [List.mem_append] at hx
        rcases hx with hx | hx | hx | hx
        · exact o3 x hx
        · exact hN x hx
        · exact o1 x hx
        · exact o2 x hx
end Go.Proofs.Ythcoaljmgkhglaa
namespace Go.Proofs.Ythcoaljmgkhglaa
open Go Go.Sx Go.RowKit
attribute [local irreducible] WL WC WQ WR St Exit.then Exit.inBlock Exit.noGoto bodyPost roundPost beginK YR RG BM Calls B AgainD MeetD
/-! ## Check, Find -/
theorem mis_some {pv : Value} {p : Seq.Plan} {i : Nat} (hr : Seq.misF p.caps.length none 0 p.seats = some i) (w : World) (h : PV w pv p) : Calls Try.prog 28 #[pv] w fun e w' => e = .returned (.tuple #[.int .i64 i, .bool true]) ∧ Below w.heap.size w w' := by
  have := misplaced_calls w h; rwa [hr] at this
theorem mis_none {pv : Value} {p : Seq.Plan} (hr : Seq.misF p.caps.length none 0 p.seats = none) (w : World) (h : PV w pv p) : Calls Try.prog 28 #[pv] w fun e w' => e = .returned (.tuple #[.int .i64 0, .bool false]) ∧ Below w.heap.size w w' := by
  have := misplaced_calls w h; rwa [hr] at this
theorem PV.mk {w : World} {p : Seq.Plan} {a1 a2 a3 a4 : Option Addr} {n1 n2 n3 n4 c1 c2 c3 c4 : Nat} (h1 : SV w 1 encI (.slice a1 n1 c1) p.caps) (h2 : SV w 4 encSeat (.slice a2 n2 c2) p.seats) (h3 : SV w 1 encI (.slice a3 n3 c3) p.first) (h4 : SV w 1 encI (.slice a4 n4 c4) p.second) :
    PV w (.agg #[.slice a1 n1 c1, .slice a2 n2 c2, .slice a3 n3 c3, .slice a4 n4 c4]) p := ⟨_, _, _, _, rfl, h1, h2, h3, h4⟩
def errV (r : Nat × Int) : Value := .tuple #[.int .i64 r.1, .int .i64 r.2]
set_option maxHeartbeats 4000000 in
theorem check_calls {pv : Value} {p : Seq.Plan} (w : World) (h : PV w pv p) : Calls Try.prog 9 #[pv] w fun e w' => e = .returned (errV (Seq.checkF p)) ∧ Below w.heap.size w w' := by
  obtain ⟨a1, c1, a2, c2, a3, c3, a4, c4, rfl, h1, h2, h3, h4⟩ := h.open
  obtain ⟨caps, l, fs, ss⟩ := p
  simp only [] at h1 h2 h3 h4 ⊢
  obtain ⟨_, _, e1, hc1, hop1⟩ := h1.open
  cases e1
  obtain ⟨_, _, e2, hc2, hop2⟩ := h2.open
  cases e2
  obtain ⟨_, _, e3, hc3, hop3⟩ := h3.open
  cases e3
  obtain ⟨_, _, e4, hc4, hop4⟩ := h4.open
  cases e4
  by_cases hm : Seq.machineOk caps
  case neg =>
    have e : Seq.checkF ⟨caps, l, fs, ss⟩ = (0, 280) := by unfold Seq.checkF; rw [if_pos hm]
    rw [e]
    refine f_enter1 Try.func9 rfl Try.ntmps9 rfl (Rep.start w) ?_
    repeat' (first | ((first | ((with_reducible apply o_call_pure (f := 22)); exact rfl) | ((with_reducible apply q_call_pure (f := 22)); exact rfl; kernel_rfl; exact rfl; exact sJ_)); exact eV_; exact (fun w hw => machine_no hm w (h1.keep hw (by exact aO_)))) | ((with_reducible first | apply o_move | apply o_assign | apply o_faddr0); exact rfl; exact rfl) | ((with_reducible apply gdo_load); first | refine wo_load (h := ?_) | refine wo_loadAll (h := ?_) | refine wo_loadC (h := ?_) | refine wo_ldV (h := ?_)) | ((with_reducible apply o_not); exact rfl; exact rfl) | ((with_reducible apply o_box); exact rfl; exact rfl; exact rfl; intro _) | ((with_reducible first | apply c_seq | apply c_block | apply c_region | apply c_nil | apply c_ret | apply c_exit | apply c_skip)) | ((with_reducible apply c_cond_t); exact rfl; exact tT_) | ((with_reducible first | apply e_then | apply e_then_ret | apply e_then_exit | apply e_in | apply e_in_ret | apply e_in_same)))
    apply r_body; apply res2 Try.results9; exact rV_; exact rV_; intro w' hw
    exact ⟨rfl, hw.below (by simp)⟩
  have hm' := hm
  unfold Seq.machineOk at hm'
  obtain ⟨hm1, hm2⟩ := hm'
  by_cases hbig : 1000 < l.length
  · have e : Seq.checkF ⟨caps, l, fs, ss⟩ = (0, 5) := by unfold Seq.checkF; rw [if_neg (fun h => h hm), if_pos hbig]
    rw [e]
    refine f_enter1 Try.func9 rfl Try.ntmps9 rfl (Rep.start w) ?_
    repeat' (first | ((first | ((with_reducible apply o_call_pure (f := 22)); exact rfl) | ((with_reducible apply q_call_pure (f := 22)); exact rfl; kernel_rfl; exact rfl; exact sJ_)); exact eV_; exact (fun w hw => machine_yes hm w (h1.keep hw (by exact aO_)))) | ((with_reducible first | apply o_move | apply o_assign | apply o_faddr0); exact rfl; exact rfl) | ((with_reducible apply gdo_load); first | refine wo_load (h := ?_) | refine wo_loadAll (h := ?_) | refine wo_loadC (h := ?_) | refine wo_ldV (h := ?_)) | ((with_reducible first | apply o_lss | apply o_gtr | apply o_neq | apply o_extract); exact rfl; exact rfl; exact rfl) | ((with_reducible apply o_not); exact rfl; exact rfl) | ((with_reducible apply o_box); exact rfl; exact rfl; exact rfl; intro _) | ((with_reducible apply o_len); infer_instance; exact rfl; exact rfl) | ((with_reducible first | apply c_seq | apply c_block | apply c_region | apply c_nil | apply c_ret | apply c_exit | apply c_skip)) | ((with_reducible apply c_cond_t); exact rfl; exact tT_) | ((with_reducible apply c_cond_f); exact rfl; exact fF_) | ((with_reducible first | apply e_then | apply e_then_ret | apply e_then_exit | apply e_in | apply e_in_ret | apply e_in_same)))
    apply r_body; apply res2 Try.results9; exact rV_; exact rV_; intro w' hw
    exact ⟨rfl, hw.below (by simp)⟩
  refine f_enter1 Try.func9 rfl Try.ntmps9 rfl (Rep.start w) ?_
  repeat' (first | ((first | ((with_reducible apply o_call_pure (f := 22)); exact rfl) | ((with_reducible apply q_call_pure (f := 22)); exact rfl; kernel_rfl; exact rfl; exact sJ_)); exact eV_; exact (fun w hw => machine_yes hm w (h1.keep hw (by exact aO_)))) | (apply o_makeSlice (m := 0) (c := l.length); infer_instance; infer_instance; exact rfl; exact rfl; exact rfl; exact rfl; decide; omega; exact rfl; intro _) | ((with_reducible first | apply o_move | apply o_assign | apply o_faddr0); exact rfl; exact rfl) | ((with_reducible apply gdo_load); first | refine wo_load (h := ?_) | refine wo_loadAll (h := ?_) | refine wo_loadC (h := ?_) | refine wo_ldV (h := ?_)) | ((with_reducible first | apply o_lss | apply o_gtr | apply o_neq | apply o_extract); exact rfl; exact rfl; exact rfl) | ((with_reducible apply o_not); exact rfl; exact rfl) | ((with_reducible apply o_box); exact rfl; exact rfl; exact rfl; intro _) | ((with_reducible apply o_len); infer_instance; exact rfl; exact rfl) | ((with_reducible first | apply c_seq | apply c_block | apply c_region | apply c_nil | apply c_ret | apply c_exit | apply c_skip)) | ((with_reducible apply c_cond_f); exact rfl; exact fF_) | ((with_reducible first | apply e_then | apply e_then_ret | apply e_then_exit | apply e_in | apply e_in_ret | apply e_in_same)))
  rename_i bp br
  have hlz : (List.replicate l.length [Value.int .i64 0, .int .i64 0]).flatten.length = l.length * 2 := by simp
  have h0 : OW 48 2 encStop (.slice (some ⟨br, 0, none⟩) 0 l.length) [] [⟨br, Ce (List.replicate l.length [Value.int .i64 0, .int .i64 0]).flatten 48, true⟩] :=
    OW.row (xs := []) (s := (List.replicate l.length [Value.int .i64 0, .int .i64 0]).flatten) hlz ⟨Nat.zero_le _, by simp⟩
  apply c_loop (σ := Nat × (Option Addr × Nat) × List Ent) (Fs := fun t => [(31, .int .i64 t.1), (30, .int .i64 l.length), (29, .slice a2 l.length c2), (4, .slice t.2.1.1 ((l.take t.1).map Seq.Seat.asStop).length t.2.1.2), (1, ptr bp)])
    (Ls := fun t => ⟨bp, Ce [.slice a1 caps.length c1, .slice a2 l.length c2, .slice a3 fs.length c3, .slice a4 ss.length c4] 51, true⟩ :: (t.2.2 ++ []))
    (I := fun t => t.1 ≤ l.length ∧ OW 48 2 encStop (.slice t.2.1.1 ((l.take t.1).map Seq.Seat.asStop).length t.2.1.2) ((l.take t.1).map Seq.Seat.asStop) t.2.2)
    (μ := fun t => l.length - t.1) (s0 := (0, (some ⟨br, 0, none⟩, l.length), [⟨br, Ce (List.replicate l.length [Value.int .i64 0, .int .i64 0]).flatten 48, true⟩]))
  · exact ⟨Nat.zero_le _, h0⟩
  · exact fS_
  · exact hS_
  rintro ⟨i, ⟨ad, cp⟩, N⟩ ⟨hi, hO⟩
  dsimp only at hi hO ⊢
  have hN := hO.own
  by_cases hlt : i < l.length
  · obtain ⟨s, hx⟩ : ∃ s, l[i]? = some s := ⟨_, List.getElem?_eq_getElem hlt⟩
    obtain ⟨b, off, cc, e, fz, rfl, hk, hp⟩ := hop2 (by omega)
    have g1 := hp.get hx
    have e1 : (l.take (i + 1)).map Seq.Seat.asStop = (l.take i).map Seq.Seat.asStop ++ [s.asStop] := by rw [take_snoc hx]; simp
    have hlen : ((l.take i).map Seq.Seat.asStop).length = i := by simp; omega
    repeat' (first | (apply o_appH (enc := encStop) (ys := [(s.asStop)]); infer_instance; infer_instance; infer_instance; exact rfl; exact encStop_len; exact encStop_one; exact rfl; exact rfl; exact rfl; assumption; exact rL_; (exact fun w hw => SV.lit [(s.asStop)] encStop_len hw (by exact aT_) rfl rfl (by decide)); (first | decide | (constructor <;> (try simp only [List.length_cons, List.length_nil]) <;> omega) | (constructor <;> simp <;> omega)); intro _ _ _ _) | ((with_reducible first | apply o_move | apply o_assign | apply o_faddr0); exact rfl; exact rfl) | ((with_reducible apply gdo_load); first | refine wo_load (h := ?_) | refine wo_loadAll (h := ?_) | refine wo_loadC (h := ?_) | refine wo_ldV (h := ?_)) | ((with_reducible first | apply o_lss | apply o_gtr | apply o_neq | apply o_extract); exact rfl; exact rfl; exact rfl) | ((with_reducible apply o_add); exact rfl; exact rfl; exact rfl; (constructor <;> omega)) | ((with_reducible apply o_alloc); exact rfl; intro _) | ((with_reducible apply gdo_store); first | refine wo_store1 (h := ?_) | refine wo_storeA (h := ?_)) | ((with_reducible apply gdo_build); first | refine wo_build (h := ?_) | refine wo_buildA (h := ?_)) | ((with_reducible apply gdo_buildSlice); refine wo_buildSlice (h := fun _ => ?_)) | ((with_reducible apply o_idx); infer_instance; infer_instance; exact rfl; exact rfl; (first | exact rfl | omega); exact rfl; (first | assumption | omega | decide)) | ((with_reducible first | apply c_seq | apply c_block | apply c_region | apply c_nil | apply c_ret | apply c_exit | apply c_skip)) | ((with_reducible apply c_cond_t); exact rfl; exact tT_) | ((with_reducible first | apply e_then | apply e_then_ret | apply e_then_exit | apply e_in | apply e_in_ret | apply e_in_same)))
    rename_i a' cp' N' hO'
    refine l_again (i + 1, (a', cp'), N') ⟨by dsimp only; omega, by dsimp only; rw [e1]; exact hO'⟩ (by dsimp only; omega) ?_ ?_
    · simp only [e1]; exact fS_
    · exact hS_
  rw [List.take_of_length_le (by omega)] at hO ⊢
  have hlm : (l.map Seq.Seat.asStop).length = l.length := by simp
  cases hr : Seq.wrongF [] 0 (l.map Seq.Seat.asStop) with
  | some k =>
    have e : Seq.checkF ⟨caps, l, fs, ss⟩ = (k, 281) := by unfold Seq.checkF; rw [if_neg (fun h => h hm), if_neg hbig, hr]
    rw [e]
    repeat' (first | ((first | ((with_reducible apply o_call_pure (f := 23)); exact rfl) | ((with_reducible apply q_call_pure (f := 23)); exact rfl; kernel_rfl; exact rfl; exact sJ_)); exact eV_; exact (fun w hw => wrong_some hr w (hO.sv encStop_len (by exact rL_) hw))) | ((with_reducible first | apply o_move | apply o_assign | apply o_faddr0); exact rfl; exact rfl) | ((with_reducible first | apply o_lss | apply o_gtr | apply o_neq | apply o_extract); exact rfl; exact rfl; exact rfl) | ((with_reducible first | apply c_seq | apply c_block | apply c_region | apply c_nil | apply c_ret | apply c_exit | apply c_skip)) | ((with_reducible apply c_cond_t); exact rfl; exact tT_) | ((with_reducible apply c_cond_f); exact rfl; exact fF_) | ((with_reducible first | apply e_then | apply e_then_ret | apply e_then_exit | apply e_in | apply e_in_ret | apply e_in_same)))
    apply r_body; apply res2 Try.results9; exact rV_; exact rV_; intro w' hw
    exact ⟨rfl, hw.below (show AO _ from by exact aO_)⟩
  | none =>
  have hroute := Seq.wrongF_none.1 hr
  cases hmi : Seq.misF caps.length none 0 l with
  | some k =>
    have e : Seq.checkF ⟨caps, l, fs, ss⟩ = (k, 282) := by unfold Seq.checkF; rw [if_neg (fun h => h hm), if_neg hbig, hr]; simp only []; rw [hmi]
    rw [e]
    repeat' (first | ((first | ((with_reducible apply o_call_pure (f := 23)); exact rfl) | ((with_reducible apply q_call_pure (f := 23)); exact rfl; kernel_rfl; exact rfl; exact sJ_)); exact eV_; exact (fun w hw => wrong_none hr w (hO.sv encStop_len (by exact rL_) hw))) | ((first | ((with_reducible apply o_call_pure (f := 28)); exact rfl) | ((with_reducible apply q_call_pure (f := 28)); exact rfl; kernel_rfl; exact rfl; exact sJ_)); exact eV_; exact (fun w hw => mis_some (p := ⟨caps, l, fs, ss⟩) hmi w (PV.mk (h1.keep hw (by exact aO_)) (h2.keep hw (by exact aO_)) (h3.keep hw (by exact aO_)) (h4.keep hw (by exact aO_))))) | ((with_reducible first | apply o_move | apply o_assign | apply o_faddr0); exact rfl; exact rfl) | ((with_reducible apply gdo_load); first | refine wo_load (h := ?_) | refine wo_loadAll (h := ?_) | refine wo_loadC (h := ?_) | refine wo_ldV (h := ?_)) | ((with_reducible first | apply o_lss | apply o_gtr | apply o_neq | apply o_extract); exact rfl; exact rfl; exact rfl) | ((with_reducible first | apply c_seq | apply c_block | apply c_region | apply c_nil | apply c_ret | apply c_exit | apply c_skip)) | ((with_reducible apply c_cond_t); exact rfl; exact tT_) | ((with_reducible apply c_cond_f); exact rfl; exact fF_) | ((with_reducible first | apply e_then | apply e_then_ret | apply e_then_exit | apply e_in | apply e_in_ret | apply e_in_same)))
    apply r_body; apply res2 Try.results9; exact rV_; exact rV_; intro w' hw
    exact ⟨rfl, hw.below (show AO _ from by exact aO_)⟩
  | none =>
  have hrange : ∀ s ∈ l, (0 ≤ s.first ∧ s.first < caps.length) ∧ (0 ≤ s.second ∧ s.second < caps.length) ∧ (0 ≤ s.vol ∧ s.vol ≤ 10000) := fun s hs => by
    have g1 := Seq.misF_range hmi s hs
    have g2 := hroute.1 s.asStop (List.mem_map.2 ⟨s, hs, rfl⟩)
    unfold Seq.Stop.ok Seq.Seat.asStop at g2
    simp only [] at g2
    exact ⟨g1.1, g1.2, by omega⟩
  by_cases hln : fs.length ≠ caps.length ∨ ss.length ≠ caps.length
  · have e : Seq.checkF ⟨caps, l, fs, ss⟩ = (0, 283) := by unfold Seq.checkF; rw [if_neg (fun h => h hm), if_neg hbig, hr]; simp only []; rw [hmi]; simp only []; rw [if_pos hln]
    rw [e]
    repeat' (first | ((first | ((with_reducible apply o_call_pure (f := 23)); exact rfl) | ((with_reducible apply q_call_pure (f := 23)); exact rfl; kernel_rfl; exact rfl; exact sJ_)); exact eV_; exact (fun w hw => wrong_none hr w (hO.sv encStop_len (by exact rL_) hw))) | ((first | ((with_reducible apply o_call_pure (f := 28)); exact rfl) | ((with_reducible apply q_call_pure (f := 28)); exact rfl; kernel_rfl; exact rfl; exact sJ_)); exact eV_; exact (fun w hw => mis_none (p := ⟨caps, l, fs, ss⟩) hmi w (PV.mk (h1.keep hw (by exact aO_)) (h2.keep hw (by exact aO_)) (h3.keep hw (by exact aO_)) (h4.keep hw (by exact aO_))))) | ((with_reducible first | apply o_move | apply o_assign | apply o_faddr0); exact rfl; exact rfl) | ((with_reducible apply gdo_load); first | refine wo_load (h := ?_) | refine wo_loadAll (h := ?_) | refine wo_loadC (h := ?_) | refine wo_ldV (h := ?_)) | ((with_reducible first | apply o_lss | apply o_gtr | apply o_neq | apply o_extract); exact rfl; exact rfl; exact rfl) | ((with_reducible apply o_pick_t); exact rfl; exact tT_; exact rfl; exact rfl) | ((with_reducible apply o_pick_f); exact rfl; exact fF_; exact rfl; exact rfl) | ((with_reducible apply o_len); infer_instance; exact rfl; exact rfl) | ((with_reducible first | apply g_run); exact rfl; exact gG_) | ((with_reducible apply g_skip); exact rfl; exact gG_; exact rfl) | ((with_reducible first | apply c_seq | apply c_block | apply c_region | apply c_nil | apply c_ret | apply c_exit | apply c_skip)) | ((with_reducible apply c_cond_t); exact rfl; exact tT_) | ((with_reducible apply c_cond_f); exact rfl; exact fF_) | ((with_reducible first | apply e_then | apply e_then_ret | apply e_then_exit | apply e_in | apply e_in_ret | apply e_in_same)) | ((with_reducible apply g_split_d); exact rfl; intro hcond; rotate_left; intro hcond; rotate_left))
    all_goals first
      | (exfalso; omega)
      | (apply r_body; apply res2 Try.results9; exact rV_; exact rV_; intro w' hw; exact ⟨rfl, hw.below (show AO _ from by exact aO_)⟩)
  have hf : fs.length = caps.length := by omega
  have hs : ss.length = caps.length := by omega
  have e0 : Seq.checkF ⟨caps, l, fs, ss⟩ = match Seq.diffF 0 fs ss (Seq.loadsF Seq.Seat.first caps.length l) (Seq.loadsF Seq.Seat.second caps.length l) with
      | some i => (i, 283)
      | none => match Seq.overF 0 caps (Seq.loadsF Seq.Seat.first caps.length l) (Seq.loadsF Seq.Seat.second caps.length l) with
        | some i => (i, 4)
        | none => (0, 0) := by unfold Seq.checkF; rw [if_neg (fun h => h hm), if_neg hbig, hr]; simp only []; rw [hmi]; simp only []; rw [if_neg hln]; rfl
  repeat' (first | ((first | ((with_reducible apply o_call_pure (f := 23)); exact rfl) | ((with_reducible apply q_call_pure (f := 23)); exact rfl; kernel_rfl; exact rfl; exact sJ_)); exact eV_; exact (fun w hw => wrong_none hr w (hO.sv encStop_len (by exact rL_) hw))) | ((first | ((with_reducible apply o_call_pure (f := 28)); exact rfl) | ((with_reducible apply q_call_pure (f := 28)); exact rfl; kernel_rfl; exact rfl; exact sJ_)); exact eV_; exact (fun w hw => mis_none (p := ⟨caps, l, fs, ss⟩) hmi w (PV.mk (h1.keep hw (by exact aO_)) (h2.keep hw (by exact aO_)) (h3.keep hw (by exact aO_)) (h4.keep hw (by exact aO_))))) | ((first | ((with_reducible apply o_call_new (f := 24)); exact rfl) | ((with_reducible apply q_call_new (f := 24)); exact rfl; exact rfl; exact sJ_)); exact eV_; exact (fun w hw => loads_calls (n := caps.length) w (h2.keep hw (by exact aO_)) (by omega) (by omega) hrange); rintro v1 N1 ⟨x1, k1, x2, k2, M1, M2, rfl, g1, g2, rfl, o1, o2⟩ <;> (try simp only [List.cons_append, List.nil_append, List.append_assoc])) | ((with_reducible first | apply o_move | apply o_assign | apply o_faddr0); exact rfl; exact rfl) | ((with_reducible apply gdo_load); first | refine wo_load (h := ?_) | refine wo_loadAll (h := ?_) | refine wo_loadC (h := ?_) | refine wo_ldV (h := ?_)) | ((with_reducible first | apply o_lss | apply o_gtr | apply o_neq | apply o_extract); exact rfl; exact rfl; exact rfl) | ((with_reducible apply o_pick_f); exact rfl; exact fF_; exact rfl; exact rfl) | ((with_reducible apply o_len); infer_instance; exact rfl; exact rfl) | ((with_reducible first | apply g_run); exact rfl; exact gG_) | ((with_reducible first | apply c_seq | apply c_block | apply c_region | apply c_nil | apply c_ret | apply c_exit | apply c_skip)) | ((with_reducible apply c_cond_f); exact rfl; exact fF_) | ((with_reducible first | apply e_then | apply e_then_ret | apply e_then_exit | apply e_in | apply e_in_ret | apply e_in_same)))
  have n1 := Seq.loadsF_len Seq.Seat.first caps.length l
  have n2 := Seq.loadsF_len Seq.Seat.second caps.length l
  generalize Seq.loadsF Seq.Seat.first caps.length l = L1 at e0 g1 n1
  generalize Seq.loadsF Seq.Seat.second caps.length l = L2 at e0 g2 n2
  obtain ⟨_, _, e5, hc5, hop5⟩ := g1.open
  rw [n1] at e5
  cases e5
  obtain ⟨bl1, sl1, rfl, rfl, hk1⟩ := hop5 (by omega)
  obtain ⟨_, _, e6, hc6, hop6⟩ := g2.open
  rw [n2] at e6
  cases e6
  obtain ⟨bl2, sl2, rfl, rfl, hk2⟩ := hop6 (by omega)
  simp only [List.cons_append, List.nil_append]
  obtain ⟨b3, o3, cc3, e3, fz3, rfl, hk3, hp3⟩ := hop3 (by omega)
  obtain ⟨b4, o4, cc4, e4, fz4, rfl, hk4, hp4⟩ := hop4 (by omega)
  apply c_loop (σ := Nat) (Fs := fun i => [(86, .int .i64 i), (85, .int .i64 caps.length), (11, .slice (some ⟨bl1, 0, none⟩) caps.length k1), (12, .slice (some ⟨bl2, 0, none⟩) caps.length k2), (1, ptr bp)])
    (Ls := fun i => ⟨bl1, Ce (L1.flatMap encI ++ sl1) 3, true⟩ :: ⟨bl2, Ce (L2.flatMap encI ++ sl2) 3, true⟩ :: ⟨bp, Ce [.slice a1 caps.length c1, .slice a2 l.length c2, .slice (some ⟨b3, o3, none⟩) fs.length c3, .slice (some ⟨b4, o4, none⟩) ss.length c4] 51, true⟩ :: (N ++ []))
    (I := fun i => i ≤ caps.length ∧ Seq.diffF 0 fs ss L1 L2 = Seq.diffF i (fs.drop i) (ss.drop i) (L1.drop i) (L2.drop i)) (μ := fun i => caps.length - i) (s0 := 0)
  · exact ⟨Nat.zero_le _, by simp⟩
  · exact fS_
  · exact hS_
  rintro j ⟨hj, hdiff⟩
  by_cases hlt2 : j < caps.length
  · obtain ⟨x1, hx1⟩ : ∃ x, fs[j]? = some x := ⟨_, List.getElem?_eq_getElem (by omega)⟩
    obtain ⟨x2, hx2⟩ : ∃ x, ss[j]? = some x := ⟨_, List.getElem?_eq_getElem (by omega)⟩
    obtain ⟨y1, hy1⟩ : ∃ x, L1[j]? = some x := ⟨_, List.getElem?_eq_getElem (by omega)⟩
    obtain ⟨y2, hy2⟩ : ∃ x, L2[j]? = some x := ⟨_, List.getElem?_eq_getElem (by omega)⟩
    have q1 := hp3.one hx1 rfl
    have q2 := hp4.one hx2 rfl
    have q3 := (Pat.flat encI_len L1 sl1).one hy1 rfl
    have q4 := (Pat.flat encI_len L2 sl2).one hy2 rfl
    rw [drop_at hx1, drop_at hx2, drop_at hy1, drop_at hy2, Seq.diffF] at hdiff
    by_cases hne : x1 ≠ y1 ∨ x2 ≠ y2
    · rw [if_pos hne] at hdiff
      rw [hdiff] at e0
      simp only [] at e0
      rw [e0]
      repeat' (first | ((with_reducible first | apply o_move | apply o_assign | apply o_faddr0); exact rfl; exact rfl) | ((with_reducible first | apply o_lss | apply o_gtr | apply o_neq | apply o_extract); exact rfl; exact rfl; exact rfl) | ((with_reducible first | apply c_seq | apply c_block | apply c_region | apply c_nil | apply c_ret | apply c_exit | apply c_skip)) | ((with_reducible apply c_cond_t); exact rfl; exact tT_) | ((with_reducible first | apply e_then | apply e_then_ret | apply e_then_exit | apply e_in | apply e_in_ret | apply e_in_same)) | ((with_reducible apply c_regionD0 (id := 23) []); kernel_rfl; kernel_rfl) | ((with_reducible apply q_nil); try simp only [ents, List.cons_append, List.nil_append]) | ((with_reducible first | apply q_move | apply q_assign | apply q_faddr0 | apply q_not_d); exact rfl; exact rfl) | ((with_reducible apply gdq_load); first | refine wq_load (h := ?_) | refine wq_loadAll (h := ?_) | refine wq_loadC (h := ?_)) | ((with_reducible first | apply q_lss | apply q_gtr | apply q_neq); exact rfl; exact rfl; exact rfl) | ((with_reducible apply q_pick_t); exact rfl; exact tT_; exact rfl; exact rfl) | ((with_reducible apply q_pick_f); exact rfl; exact fF_; exact rfl; exact rfl) | ((with_reducible apply q_idx); infer_instance; infer_instance; exact rfl; exact rfl; (first | exact rfl | omega); exact rfl; (first | assumption | omega | decide)) | ((with_reducible first | apply h_run); exact rfl; exact gG_) | ((with_reducible apply h_skip); exact rfl; exact gG_; exact rfl) | ((with_reducible apply h_split_d); exact rfl; intro hcond; rotate_left; intro hcond; rotate_left))
      all_goals first
        | (exfalso; omega)
        | (apply r_body; apply res2 Try.results9; exact rV_; exact rV_; intro w' hw; exact ⟨rfl, hw.below (show AO _ from by exact aO_)⟩)
    · rw [if_neg hne] at hdiff
      repeat' (first | ((with_reducible first | apply o_move | apply o_assign | apply o_faddr0); exact rfl; exact rfl) | ((with_reducible first | apply o_lss | apply o_gtr | apply o_neq | apply o_extract); exact rfl; exact rfl; exact rfl) | ((with_reducible apply o_add); exact rfl; exact rfl; exact rfl; (constructor <;> omega)) | ((with_reducible first | apply c_seq | apply c_block | apply c_region | apply c_nil | apply c_ret | apply c_exit | apply c_skip)) | ((with_reducible apply c_cond_t); exact rfl; exact tT_) | ((with_reducible apply c_cond_f); exact rfl; exact fF_) | ((with_reducible first | apply e_then | apply e_then_ret | apply e_then_exit | apply e_in | apply e_in_ret | apply e_in_same)) | ((with_reducible apply c_regionD0 (id := 23) []); kernel_rfl; kernel_rfl) | ((with_reducible apply q_nil); try simp only [ents, List.cons_append, List.nil_append]) | ((with_reducible first | apply q_move | apply q_assign | apply q_faddr0 | apply q_not_d); exact rfl; exact rfl) | ((with_reducible apply gdq_load); first | refine wq_load (h := ?_) | refine wq_loadAll (h := ?_) | refine wq_loadC (h := ?_)) | ((with_reducible first | apply q_lss | apply q_gtr | apply q_neq); exact rfl; exact rfl; exact rfl) | ((with_reducible apply q_pick_f); exact rfl; exact fF_; exact rfl; exact rfl) | ((with_reducible apply q_idx); infer_instance; infer_instance; exact rfl; exact rfl; (first | exact rfl | omega); exact rfl; (first | assumption | omega | decide)) | ((with_reducible first | apply h_run); exact rfl; exact gG_))
      all_goals first
        | (exfalso; omega)
        | (refine l_again (j + 1) ⟨by omega, hdiff⟩ (by omega) ?_ ?_
           · exact fS_
           · exact hS_)
  have hz : Seq.diffF j [] (ss.drop j) (L1.drop j) (L2.drop j) = none := by simp [Seq.diffF]
  rw [List.drop_of_length_le (l := fs) (by omega), hz] at hdiff
  rw [hdiff] at e0
  simp only [] at e0
  cases hov : Seq.overF 0 caps L1 L2 with
  | some k =>
    rw [hov] at e0
    simp only [] at e0
    rw [e0]
    repeat' (first | ((first | ((with_reducible apply o_call_pure (f := 27)); exact rfl) | ((with_reducible apply q_call_pure (f := 27)); exact rfl; kernel_rfl; exact rfl; exact sJ_)); exact eV_; exact (fun w hw => over_some hov w (h1.keep hw (by exact aO_)) (g1.sv encI_len (by exact rL_) hw) (g2.sv encI_len (by exact rL_) hw) n1 n2)) | ((with_reducible first | apply o_move | apply o_assign | apply o_faddr0); exact rfl; exact rfl) | ((with_reducible apply gdo_load); first | refine wo_load (h := ?_) | refine wo_loadAll (h := ?_) | refine wo_loadC (h := ?_) | refine wo_ldV (h := ?_)) | ((with_reducible first | apply o_lss | apply o_gtr | apply o_neq | apply o_extract); exact rfl; exact rfl; exact rfl) | ((with_reducible first | apply c_seq | apply c_block | apply c_region | apply c_nil | apply c_ret | apply c_exit | apply c_skip)) | ((with_reducible apply c_cond_t); exact rfl; exact tT_) | ((with_reducible apply c_cond_f); exact rfl; exact fF_) | ((with_reducible first | apply e_then | apply e_then_ret | apply e_then_exit | apply e_in | apply e_in_ret | apply e_in_same)))
    apply r_body; apply res2 Try.results9; exact rV_; exact rV_; intro w' hw
    exact ⟨rfl, hw.below (show AO _ from by exact aO_)⟩
  | none =>
    rw [hov] at e0
    simp only [] at e0
    rw [e0]
    repeat' (first | ((first | ((with_reducible apply o_call_pure (f := 27)); exact rfl) | ((with_reducible apply q_call_pure (f := 27)); exact rfl; kernel_rfl; exact rfl; exact sJ_)); exact eV_; exact (fun w hw => over_none hov w (h1.keep hw (by exact aO_)) (g1.sv encI_len (by exact rL_) hw) (g2.sv encI_len (by exact rL_) hw) n1 n2)) | ((with_reducible first | apply o_move | apply o_assign | apply o_faddr0); exact rfl; exact rfl) | ((with_reducible apply gdo_load); first | refine wo_load (h := ?_) | refine wo_loadAll (h := ?_) | refine wo_loadC (h := ?_) | refine wo_ldV (h := ?_)) | ((with_reducible first | apply o_lss | apply o_gtr | apply o_neq | apply o_extract); exact rfl; exact rfl; exact rfl) | ((with_reducible first | apply c_seq | apply c_block | apply c_region | apply c_nil | apply c_ret | apply c_exit | apply c_skip)) | ((with_reducible apply c_cond_f); exact rfl; exact fF_) | ((with_reducible first | apply e_then | apply e_then_ret | apply e_then_exit | apply e_in | apply e_in_ret | apply e_in_same)))
    apply r_body; apply res2 Try.results9; exact rV_; exact rV_; intro w' hw
    exact ⟨rfl, hw.below (show AO _ from by exact aO_)⟩
def findV : Option Seq.Seat → Value
  | some s => .tuple #[.agg #[.int .i64 s.stop, .int .i64 s.vol, .int .i64 s.first, .int .i64 s.second], .bool true]
  | none => .tuple #[.agg #[.int .i64 0, .int .i64 0, .int .i64 0, .int .i64 0], .bool false]
end Go.Proofs.Ythcoaljmgkhglaa
namespace Go.Proofs.Ythcoaljmgkhglaa
open Go Go.Sx Go.RowKit
/-! ## seats, by their stops -/
def encN (i : Nat) : List Value := [.int .i64 i]
@[reducible] def seatV (s : Seq.Seat) : Value := .agg #[.int .i64 s.stop, .int .i64 s.vol, .int .i64 s.first, .int .i64 s.second]
def seatM (l : List Seq.Seat) : List (Value × Value) := l.map fun s => (.int .i64 s.stop, seatV s)
theorem seatM_mk {l : List Seq.Seat} (h : (l.map Seq.Seat.stop).Nodup) : MK (.int .i64) (seatM l) := by
  refine ⟨fun p hp => ?_, ?_⟩
  · obtain ⟨s, _, rfl⟩ := List.mem_map.1 hp
    rfl
  · have e : (seatM l).map Prod.fst = (l.map Seq.Seat.stop).map (fun x => Value.int .i64 x) := by simp [seatM, Function.comp_def]
    rw [e]
    exact List.pairwise_map.2 (h.imp fun hne e => hne (by cases e; rfl))
theorem findF_some {l : List Seq.Seat} {x : Int} {s : Seq.Seat} (h : Seq.findF l x = some s) : ∃ j : Nat, l[j]? = some s ∧ s.stop = x := by
  unfold Seq.findF at h
  have h1 := List.find?_some h
  obtain ⟨j, hj⟩ := List.getElem?_of_mem (List.mem_of_find?_eq_some h)
  exact ⟨j, hj, by simpa using h1⟩
theorem seatM_in {l : List Seq.Seat} {x : Int} {s : Seq.Seat} {j : Nat} (h : l[j]? = some s) (hx : s.stop = x) : (seatM l)[j]? = some (.int .i64 x, seatV s) := by simp [seatM, h, hx]
theorem seatM_out {l : List Seq.Seat} {x : Int} (h : Seq.findF l x = none) : ∀ p ∈ seatM l, p.1 ≠ .int .i64 x := by
  intro p hp e
  obtain ⟨s, hs, rfl⟩ := List.mem_map.1 hp
  unfold Seq.findF at h
  have := List.find?_eq_none.1 h s hs
  cases e
  simp at this
end Go.Proofs.Ythcoaljmgkhglaa
