/- A part of the proofs of this seat: a small logic of walks, plain laws, and what some of the program's functions compute, shown by walks through their code. Conditions: the hypotheses that each theorem names. -/
import Derived.Test.YtkhaemjoekfhiaaZPRoutes3
import Derived.Test.YtkhaemjoekfhiaaZPRoutes2
set_option linter.unusedSimpArgs false
set_option linter.unusedVariables false
set_option linter.unusedSectionVars false
namespace Go.Proofs.Ytkhaemjoekfhiaa
open Go Go.Sx Go.RowKit
section
variable {P : Program} {n : Nat} {D : List Deferred} {w0 : World} {F : List (Nat × Value)} {L L0 : List Ent} {Q : Exit → Act → World → Prop} {r : Option Nat} {ops : Array Oper}
variable {d : Tmp} {ty : TypeId} {pos : String} {af : Array Edge} {rest : List Oper}
theorem o_storeT {α : Type} {enc : α → List Value} {t e : TypeId} {k kk m o : Nat} {x y : Operand} {b p : Nat} {v : Value} {xs ys : List α} {z : α} (z' : α) (hys : xs.set m z' = ys) {s vs : List Value} {L' : List Ent} (hS : TS P t kk) (hx : ev F x = some (.pointer (some ⟨b, p, none⟩))) (hy : ev F y = some v)
    (hat : At L b (Ce (xs.flatMap enc ++ s) e)) (hz : xs[m]? = some z) (henc : ∀ x, (enc x).length = k) (hp : p = m * k + o) (hvs : v.cells = vs.toArray) (hlen : vs.length = kk) (h1 : ∀ u ∈ vs, u.oneCell' = true) (ho : o + vs.length ≤ k)
    (he : enc z' = (enc z).take o ++ vs ++ (enc z).drop (o + vs.length)) (hu : Upd L b (Ce (xs.flatMap enc ++ s) e) (Ce (ys.flatMap enc ++ s) e) L')
    (h : St n D w0 F L' (WL r P ops Q rest)) :
    St n D w0 F L (WL r P ops Q (⟨none, .store t x y, ty, pos, af, none⟩ :: rest)) := by
  subst hys
  exact o_storeS z' hS hx hy hat hz henc hp hvs hlen h1 ho he hu h
end
attribute [local irreducible] WL WC WQ WR St Exit.then Exit.inBlock Exit.noGoto bodyPost roundPost beginK YR RG BM Calls B AgainD MeetD
/-! ## machines that are played -/
def encE (e : Srt.Ev) : List Value := [.int .u8 e.kind, .int .i64 e.item, .int .i64 e.st]
theorem encE_len : ∀ x, (encE x).length = 3 := fun _ => rfl
theorem encE_one : ∀ x, (encE x).all (·.oneCell') = true := fun _ => rfl
def encF (f : Srt.Fd) : List Value := [.int .i64 f.item, .int .i64 f.st]
theorem encF_len : ∀ x, (encF x).length = 2 := fun _ => rfl
theorem encF_one : ∀ x, (encF x).all (·.oneCell') = true := fun _ => rfl
/-- What lies where a machine is played: its block b, and its rows. -/
def mach (n b : Nat) (cv : Value) (m : Srt.M) (G : List Ent) : Prop := ∃ bs bw bh ao co ar cr ae ce ss ML NO NR NE,
  G = ⟨b, Ce [slc bs n, slc bw n, .slice ao m.over.length co, .slice ar m.rej.length cr, .slice ae m.evs.length ce, cv, slc bh n, .int .i64 m.left] 161, true⟩ :: ⟨bs, Ce (ss.flatMap encS ++ []) 43, true⟩ :: ⟨bw, Ce (m.swept.flatMap encI ++ []) 3, true⟩ :: ⟨bh, Ce (m.held.flatMap encI ++ []) 3, true⟩ :: (ML ++ (NO ++ (NR ++ (NE ++ [])))) ∧
  LL 3 1 encI ss m.stackers ML ∧ OW 3 1 encI (.slice ao m.over.length co) m.over NO ∧ OW 3 1 encI (.slice ar m.rej.length cr) m.rej NR ∧ OW 164 3 encE (.slice ae m.evs.length ce) m.evs NE ∧ Srt.Sz n m
theorem mach.own {n b : Nat} {cv : Value} {m : Srt.M} {G : List Ent} (h : mach n b cv m G) : ∀ x ∈ G, x.own = true := by
  obtain ⟨bs, bw, bh, ao, co, ar, cr, ae, ce, ss, ML, NO, NR, NE, rfl, h1, h2, h3, h4, _⟩ := h
  exact show AO _ from .cons (.cons (.cons (.cons (.app h1.own (.app h2.own (.app h3.own (.app h4.own .nil)))))))
theorem U_nil_rows (n : Nat) : (List.replicate n [Value.slice none 0 0]).flatten = (List.replicate n ((none, 0, 0) : SD)).flatMap encS ++ [] := by
  rw [List.append_nil, List.flatMap_def, List.map_replicate]
  rfl
theorem U_nils {α : Type} {E : TypeId} {k : Nat} {enc : α → List Value} : ∀ n : Nat, LL E k enc (List.replicate n ((none, 0, 0) : SD)) (List.replicate n []) []
  | 0 => LL.nil
  | n + 1 => by
    rw [List.replicate_succ, List.replicate_succ]
    exact LL.cons (s := (none, 0, 0)) (N := []) OW.nil (U_nils n)
set_option maxHeartbeats 4000000 in
theorem new_calls {cv : Value} {caps : List Int} {s : Int} (w : World) (h : SV w 1 encI cv caps) (hn : caps.length ≤ 64) : Calls Try.prog 65 #[cv, .int .i64 s] w fun e w' => ∃ v N, e = .returned v ∧ (∃ b, v = ptr b ∧ mach caps.length b cv (Srt.M.new caps.length s) N ∧ ∀ x ∈ N, x.own = true) ∧ Rep w w' N ∧ ∀ x ∈ N, x.own = true := by
  obtain ⟨a0, ca, rfl, hca, hop⟩ := h.open
  refine f_enter2 Try.func65 rfl Try.ntmps65 rfl (Rep.start w) ?_
  repeat' (first | ((with_reducible first | apply o_move | apply o_assign); exact rfl; exact rfl) | ((with_reducible apply o_len); infer_instance; exact rfl; exact rfl) | ((with_reducible first | apply c_seq | apply c_block | apply c_region | apply c_nil | apply c_ret | apply c_exit | apply c_skip)) | ((with_reducible first | apply e_then | apply e_then_ret | apply e_then_exit | apply e_in | apply e_in_ret | apply e_in_same)) | ((with_reducible apply c_regionD0 (id := 2) []); kernel_rfl; kernel_rfl) | ((with_reducible apply q_nil); try simp only [ents, List.cons_append, List.nil_append]) | ((with_reducible first | apply q_move | apply q_assign); exact rfl; exact rfl) | ((with_reducible apply gdq_build); first | refine wq_build (h := ?_)) | ((with_reducible apply q_box); exact rfl; exact rfl; exact rfl; intro _) | ((with_reducible apply gdq_makeSlice); refine wq_makeSlice (h := fun _ => ?_)))
  rename_i bs bw bh b
  simp only [U_nil_rows, zeros_row] at *
  apply r_body; apply res1 Try.results65; exact rV_; intro w' hw
  have hm : mach caps.length b (.slice a0 caps.length ca) (Srt.M.new caps.length s) (⟨b, Ce [slc bs caps.length, slc bw caps.length, .slice none 0 0, .slice none 0 0, .slice none 0 0, .slice a0 caps.length ca, slc bh caps.length, .int .i64 s] 161, true⟩ :: ⟨bs, Ce ((List.replicate caps.length ((none, 0, 0) : SD)).flatMap encS ++ []) 43, true⟩ :: ⟨bw, Ce ((List.replicate caps.length (0 : Int)).flatMap encI ++ []) 3, true⟩ :: ⟨bh, Ce ((List.replicate caps.length (0 : Int)).flatMap encI ++ []) 3, true⟩ :: ([] ++ ([] ++ ([] ++ ([] ++ []))))) :=
    ⟨bs, bw, bh, none, 0, none, 0, none, 0, _, [], [], [], [], rfl, U_nils _, OW.nil, OW.nil, OW.nil, Srt.Sz.new _ _⟩
  exact ⟨_, _, rfl, ⟨b, rfl, hm, hm.own⟩, hw.sub (by exact hS_), hm.own⟩
set_option maxHeartbeats 4000000 in
theorem note_calls {w0 w : World} {L0 NE : List Ent} {b ce : Nat} {ae : Option Addr} {x0 x1 x2 x3 x5 x6 x7 v : Value} {es ys : List Srt.Ev} (hO : OW 164 3 encE (.slice ae es.length ce) es NE)
    (hw : Rep w0 w (⟨b, Ce [x0, x1, x2, x3, .slice ae es.length ce, x5, x6, x7] 161, true⟩ :: (NE ++ L0))) (hsv : ∀ w', Rep w0 w' (⟨b, Ce [x0, x1, x2, x3, .slice ae es.length ce, x5, x6, x7] 161, true⟩ :: (NE ++ L0)) → SV w' 3 encE v ys) (hb : es.length ≤ 100000 ∧ ys.length ≤ 2) :
    Calls Try.prog 67 #[ptr b, v] w fun e w' => ∃ r G', e = .returned r ∧ (r = .tuple #[] ∧ ∃ a' c' N', G' = ⟨b, Ce [x0, x1, x2, x3, .slice a' (es ++ ys).length c', x5, x6, x7] 161, true⟩ :: N' ∧ OW 164 3 encE (.slice a' (es ++ ys).length c') (es ++ ys) N') ∧ Rep w0 w' (G' ++ L0) := by
  have hNE := hO.own
  refine f_enterF2 Try.func67 rfl Try.ntmps67 rfl (hw) ?_
  repeat' (first | (apply o_appH (enc := encE); infer_instance; infer_instance; infer_instance; exact rfl; exact encE_len; exact encE_one; exact rfl; exact rfl; exact rfl; assumption; exact rL_; (exact fun w hw => (hsv w hw)); (first | decide | (constructor <;> (try simp only [List.length_cons, List.length_nil]) <;> omega) | (constructor <;> simp <;> omega)); intro _ _ _ _) | ((with_reducible first | apply o_move | apply o_faddr0 | apply o_nilCheck); exact rfl; exact rfl) | ((with_reducible apply gdo_load); first | refine wo_load (h := ?_) | refine wo_loadAll (h := ?_) | refine wo_loadC (h := ?_) | refine wo_ldV (h := ?_) | refine wo_ldF (h := ?_)) | ((with_reducible apply gdo_store); first | refine wo_store1 (h := ?_) | refine wo_storeA (h := ?_)) | ((with_reducible first | apply c_seq | apply c_block | apply c_region | apply c_nil | apply c_ret | apply c_exit | apply c_skip)))
  rename_i a' c' N' hO'
  apply r_body'; apply res0 Try.results67; intro w' hw
  exact ⟨_, _, rfl, ⟨rfl, a', c', N', rfl, hO'⟩, hw.sub (by simp only [List.cons_append]; exact hS_)⟩
/-- The call of note, seen by its caller. -/
theorem o_note {n : Nat} {D : List Deferred} {w0 : World} {F : List (Nat × Value)} {L L1 L2 NE : List Ent} {Q : Exit → Act → World → Prop} {r : Option Nat} {ops : Array Oper} {d : Tmp} {ty : TypeId} {pos : String} {af : Array Edge} {rest : List Oper} {x y : Operand} {ats : Array TypeId}
    {b ce : Nat} {ae : Option Addr} {x0 x1 x2 x3 x5 x6 x7 v : Value} {es ys : List Srt.Ev} (hx : ev F x = some (ptr b)) (hy : ev F y = some v) (hd : Nat.ble (d + 1) n = true)
    (hr : Rem L ⟨b, Ce [x0, x1, x2, x3, .slice ae es.length ce, x5, x6, x7] 161, true⟩ L1) (hO : OW 164 3 encE (.slice ae es.length ce) es NE) (hr2 : RemL L1 NE L2) (hsv : ∀ w, Rep w0 w L → SV w 3 encE v ys) (hb : es.length ≤ 100000 ∧ ys.length ≤ 2)
    (h : ∀ a' c' N', OW 164 3 encE (.slice a' (es ++ ys).length c') (es ++ ys) N' → St n D w0 ((d, .tuple #[]) :: F) (⟨b, Ce [x0, x1, x2, x3, .slice a' (es ++ ys).length c', x5, x6, x7] 161, true⟩ :: (N' ++ L2)) (WL r Try.prog ops Q rest)) :
    St n D w0 F L (WL r Try.prog ops Q (⟨some d, .call ⟨.value (.func 67), #[x, y], ats⟩, ty, pos, af, none⟩ :: rest)) := by
  have hp : RemL L (⟨b, Ce [x0, x1, x2, x3, .slice ae es.length ce, x5, x6, x7] 161, true⟩ :: NE) L2 := RemL.cons hr hr2
  refine o_call_frame (f := 67) (x := .func 67) (caps := #[]) (xs := [x, y]) (vs := [ptr b, v]) (L0 := L2) (G := ⟨b, Ce [x0, x1, x2, x3, .slice ae es.length ce, x5, x6, x7] 161, true⟩ :: NE)
    (Φ := fun v G' => v = .tuple #[] ∧ ∃ a' c' N', G' = ⟨b, Ce [x0, x1, x2, x3, .slice a' (es ++ ys).length c', x5, x6, x7] 161, true⟩ :: N' ∧ OW 164 3 encE (.slice a' (es ++ ys).length c') (es ++ ys) N') rfl hd ?_ hp ?_ ?_
  · exact Evs.cons hx (Evs.cons hy Evs.nil)
  · intro w hw
    rw [Array.append_empty]
    exact note_calls hO hw (fun w' hw' => hsv w' (hw'.perm (List.Perm.symm hp))) hb
  · rintro v G' ⟨rfl, a', c', N', rfl, hO'⟩
    exact h a' c' N' hO'
end Go.Proofs.Ytkhaemjoekfhiaa
namespace Go.Proofs.Ytkhaemjoekfhiaa
open Go Go.Sx Go.RowKit
attribute [local irreducible] WL WC WQ WR St Exit.then Exit.inBlock Exit.noGoto bodyPost roundPost beginK YR RG BM Calls B AgainD MeetD
/-! ## one item -/
set_option maxHeartbeats 16000000 in
set_option maxRecDepth 100000 in
theorem take_calls {w0 w : World} {L0 G : List Ent} {b j : Nat} {cv : Value} {caps : List Int} {m : Srt.M} {x st : Int} (hcap : SV w0 1 encI cv caps) (hL0 : ∀ x ∈ L0, x.own = true) (hw : Rep w0 w (G ++ L0)) (hm : mach caps.length b cv m G) (hb : Srt.Bd j m) (hj : j ≤ 10000) (hf : st < caps.length) :
    Calls Try.prog 66 #[ptr b, .agg #[.int .i64 x, .int .i64 st]] w fun e w' => ∃ r G', e = .returned r ∧ (r = .tuple #[] ∧ mach caps.length b cv (Srt.takeF caps m ⟨x, st⟩) G') ∧ Rep w0 w' (G' ++ L0) := by
  obtain ⟨bs, bw, bh, ao, co, ar, cr, ae, ce, ss, ML, NO, NR, NE, rfl, hS, hO, hR, hE, hz⟩ := hm
  obtain ⟨a0, ca, rfl, hca, hop⟩ := hcap.open
  have h1 := hS.own
  have h2 := hO.own
  have h3 := hR.own
  have h4 := hE.own
  obtain ⟨zs, zw, zh⟩ := hz
  obtain ⟨b1, b2, b3, b4, b5, b6, b7⟩ := hb
  rw [← List.append_nil L0] at hw ⊢
  simp only [List.cons_append, List.append_assoc, List.nil_append] at hw
  by_cases hneg : st < 0
  · have e : Srt.takeF caps m ⟨x, st⟩ = ⟨m.stackers, m.swept, m.over, m.rej ++ [x], m.evs ++ [⟨4, x, -1⟩], m.held, m.left⟩ := by unfold Srt.takeF; rw [if_pos hneg]; rfl
    rw [e]
    refine f_enterF2 Try.func66 rfl Try.ntmps66 rfl (hw) ?_
    repeat' (first | (apply o_appH (enc := encI) (ys := [(x)]); infer_instance; infer_instance; infer_instance; exact rfl; exact encI_len; exact encI_one; exact rfl; exact rfl; exact rfl; assumption; exact rL_; (exact fun w hw => SV.lit [(x)] encI_len hw (by exact aT_) rfl rfl (by decide)); (first | decide | (constructor <;> (try simp only [List.length_cons, List.length_nil]) <;> omega) | (constructor <;> simp <;> omega)); intro a1 c1 N1 hO1; have oN1 := hO1.own) | ((with_reducible apply o_note); exact rfl; exact rfl; exact rfl; (focus (repeat (first | exact Rem.hd | apply Rem.tl | apply Rem.right))); assumption; exact rL_; (exact fun w hw => SV.lit [(⟨4, x, -1⟩ : Srt.Ev)] encE_len hw (by exact aT_) rfl rfl (by decide)); exact ⟨by omega, by simp⟩; intro a9 c9 N9 hO9; have oN9 := hO9.own) | ((with_reducible first | apply o_move | apply o_assign | apply o_faddr0 | apply o_nilCheck); exact rfl; exact rfl) | ((with_reducible apply gdo_load); first | refine wo_load (h := ?_) | refine wo_loadAll (h := ?_) | refine wo_loadC (h := ?_) | refine wo_ldV (h := ?_) | refine wo_ldF (h := ?_)) | ((with_reducible first | apply o_lss | apply o_gtr); exact rfl; exact rfl; exact rfl) | ((with_reducible apply o_box); exact rfl; exact rfl; exact rfl; intro _) | ((with_reducible apply gdo_store); first | refine wo_store1 (h := ?_) | refine wo_storeA (h := ?_)) | ((with_reducible apply gdo_build); first | refine wo_build (h := ?_)) | ((with_reducible apply gdo_buildSlice); refine wo_buildSlice (h := fun _ => ?_)) | ((with_reducible first | apply c_seq | apply c_block | apply c_region | apply c_nil | apply c_ret | apply c_exit | apply c_skip)) | ((with_reducible apply c_cond_t); exact rfl; exact tT_) | ((with_reducible first | apply e_then | apply e_then_ret | apply e_then_exit | apply e_in | apply e_in_ret | apply e_in_same)) | ((with_reducible apply c_regionD0 (id := 1) []); kernel_rfl; kernel_rfl) | ((with_reducible apply q_nil); try simp only [ents, List.cons_append, List.nil_append]) | ((with_reducible first | apply q_move | apply q_assign | apply q_faddr0); exact rfl; exact rfl) | ((with_reducible apply gdq_load); first | refine wq_load (h := ?_) | refine wq_loadAll (h := ?_) | refine wq_loadC (h := ?_) | refine wq_ldF (h := ?_)))
    apply r_body; apply res0 Try.results66; intro w' hw
    exact ⟨_, _, rfl, ⟨rfl, bs, bw, bh, ao, co, a1, c1, a9, c9, ss, ML, NO, N1, N9, rfl, hS, hO, hO1, hO9, ⟨zs, zw, zh⟩⟩, hw.sub (by simp only [List.cons_append, List.append_assoc, List.nil_append]; exact hS_)⟩
  obtain ⟨k, rfl⟩ := Int.eq_ofNat_of_zero_le (show 0 ≤ st by omega)
  have hkn : k < caps.length := by omega
  obtain ⟨c, hc⟩ : ∃ c, caps[k]? = some c := ⟨_, List.getElem?_eq_getElem hkn⟩
  obtain ⟨h, hh⟩ : ∃ h, m.held[k]? = some h := ⟨_, List.getElem?_eq_getElem (by omega)⟩
  obtain ⟨s, hs⟩ : ∃ s, m.swept[k]? = some s := ⟨_, List.getElem?_eq_getElem (by omega)⟩
  obtain ⟨xs, hxs⟩ : ∃ xs, m.stackers[k]? = some xs := ⟨_, List.getElem?_eq_getElem (by omega)⟩
  have dc : caps.getD k 0 = c := by simp [hc]
  have dh : m.held.getD k 0 = h := by simp [hh]
  have ds : m.swept.getD k 0 = s := by simp [hs]
  have dx : m.stackers.getD k [] = xs := by simp [hxs]
  have bh5 := b5 k
  have bs6 := b6 k
  have bx4 := b4 k
  rw [dh] at bh5
  rw [ds] at bs6
  rw [dx] at bx4
  have hhl : k < m.held.length := by omega
  have hsl : k < m.swept.length := by omega
  obtain ⟨bc, off, cc, ec, fz, rfl, hk, hp⟩ := hop (by omega)
  have g0 := hp.one hc rfl
  have g1 := (Pat.flat encI_len m.held []).one hh rfl
  have g2 := (Pat.flat encI_len m.swept []).one hs rfl
  obtain ⟨⟨sa, sn, sc⟩, N, M1, M2, q1, q2, rfl, q3, q4, q5⟩ := hS.at hxs
  obtain ⟨_, _, eq2, hcq, _⟩ := q2.open
  cases eq2
  have hN := q2.own
  have g3 : (ss.flatMap encS ++ ([] : List Value)).toArray[0 + k * 1]? = some (.slice sa xs.length sc) := (Pat.flat encS_len ss []).one q1 rfl
  simp only [List.append_assoc] at hw
  by_cases hlt : h < c
  · obtain ⟨H1, hH1⟩ : ∃ H1, m.held.set k (h + 1) = H1 := ⟨_, rfl⟩
    have e : Srt.takeF caps m ⟨x, k⟩ = ⟨m.stackers.set k (xs ++ [x]), m.swept, m.over, m.rej, m.evs ++ [⟨1, x, k⟩], H1, m.left⟩ := by
      unfold Srt.takeF
      simp only [Int.toNat_natCast, dc, dh]
      rw [if_neg (by omega), if_pos hlt]
      simp only [Srt.stack, Srt.note, Srt.putAt, Seq.addAt, Int.toNat_natCast, dx, dh, hH1]
    rw [e]
    refine f_enterF2 Try.func66 rfl Try.ntmps66 rfl (hw) ?_
    repeat' (first | ((with_reducible apply o_note); exact rfl; exact rfl; exact rfl; (focus (repeat (first | exact Rem.hd | apply Rem.tl | apply Rem.right))); assumption; exact rL_; (exact fun w hw => SV.lit [(⟨1, x, k⟩ : Srt.Ev)] encE_len hw (by exact aT_) rfl rfl (by decide)); exact ⟨by omega, by simp⟩; intro a9 c9 N9 hO9; have oN9 := hO9.own) | ((with_reducible apply c_regionA0 (id := 15) (specA 16 N hN [(16, appφ 3 1 encI (xs ++ [x]))])); kernel_rfl; kernel_rfl; exact rfl; exact rL_) | ((with_reducible apply q_appA (enc := encI) (xs := xs) (ys := [x]) (H := N)); infer_instance; infer_instance; infer_instance; exact rfl; exact encI_len; exact encI_one; exact rfl; exact rfl; exact rfl; exact rfl; exact sJ_; exact rfl; exact q2; (exact fun w hw => SV.lit [x] encI_len hw (by exact aT_) rfl rfl (by decide)); (constructor <;> (try simp only [List.length_cons, List.length_nil]) <;> omega); intro a' cap' N' Rr' hO' hN' hR') | ((apply q_storeS (enc := encS) (kl := 1) (m := k) (o := 0) (xs := ss) (z := (sa, _, sc)) ((a', (xs ++ [x]).length, cap') : SD)); infer_instance; exact rfl; exact rfl; exact aT_; exact q1; exact encS_len; omega; exact rfl; exact rfl; (intro u hu; simp at hu; subst hu; rfl); (exact Nat.le_refl _); exact rfl; exact uP_) | (apply o_storeT (enc := encI) (k := 1) (m := k) (o := 0) (xs := (m.held)) (h + 1) (hH1); infer_instance; exact rfl; exact rfl; exact aT_; exact (hh); exact encI_len; omega; exact rfl; exact rfl; (intro u hu; simp at hu; first | (subst hu; rfl) | (rcases hu with rfl | rfl <;> rfl) | (rcases hu with rfl | rfl | rfl <;> rfl) | (rcases hu with rfl | rfl | rfl | rfl <;> rfl)); (first | decide | exact Nat.le_refl _ | (simp only [List.length_cons, List.length_nil]; decide)); exact rfl; exact uP_) | ((with_reducible first | apply o_move | apply o_assign | apply o_faddr0 | apply o_nilCheck); exact rfl; exact rfl) | ((with_reducible apply gdo_load); first | refine wo_load (h := ?_) | refine wo_loadAll (h := ?_) | refine wo_loadC (h := ?_) | refine wo_ldV (h := ?_) | refine wo_ldF (h := ?_)) | ((with_reducible first | apply o_lss | apply o_gtr); exact rfl; exact rfl; exact rfl) | ((with_reducible first | apply o_add | apply o_sub); exact rfl; exact rfl; exact rfl; (constructor <;> omega)) | ((with_reducible apply o_alloc); exact rfl; intro _) | ((with_reducible apply o_box); exact rfl; exact rfl; exact rfl; intro _) | ((with_reducible apply gdo_store); first | refine wo_store1 (h := ?_) | refine wo_storeA (h := ?_)) | ((with_reducible apply gdo_build); first | refine wo_build (h := ?_)) | ((with_reducible apply gdo_buildSlice); refine wo_buildSlice (h := fun _ => ?_)) | ((with_reducible apply o_idx); infer_instance; infer_instance; exact rfl; exact rfl; (first | exact rfl | omega); exact rfl; (first | assumption | omega | decide)) | ((with_reducible first | apply c_seq | apply c_block | apply c_region | apply c_nil | apply c_ret | apply c_exit | apply c_skip)) | ((with_reducible apply c_cond_t); exact rfl; exact tT_) | ((with_reducible apply c_cond_f); exact rfl; exact fF_) | ((with_reducible first | apply e_then | apply e_then_ret | apply e_then_exit | apply e_in | apply e_in_ret | apply e_in_same)) | ((with_reducible apply c_regionD0 (id := 1) []); kernel_rfl; kernel_rfl) | ((with_reducible apply c_regionD0 (id := 8) []); kernel_rfl; kernel_rfl) | ((with_reducible apply q_nil); try simp only [ents, List.cons_append, List.nil_append]) | ((with_reducible first | apply q_move | apply q_assign | apply q_faddr0); exact rfl; exact rfl) | ((with_reducible apply gdq_load); first | refine wq_load (h := ?_) | refine wq_loadAll (h := ?_) | refine wq_loadC (h := ?_) | refine wq_ldF (h := ?_)) | ((with_reducible first | apply q_lss | apply q_gtr); exact rfl; exact rfl; exact rfl) | ((with_reducible apply gdq_nilCheck); refine wq_nilCheck (h := ?_)) | ((with_reducible apply q_idx); infer_instance; infer_instance; exact rfl; exact rfl; (first | exact rfl | omega); exact rfl; (first | assumption | omega | decide)) | ((with_reducible apply gdq_buildSlice); refine wq_buildSlice (h := fun _ => ?_)))
    apply r_body'; apply res0 Try.results66; intro w' hw
    exact ⟨_, _, rfl, ⟨rfl, bs, bw, bh, ao, co, ar, cr, a9, c9, _, _, NO, NR, N9, rfl, q5 _ _ _ hO', hO, hR, hO9, ⟨by simp [zs], zw, by rw [← hH1]; simp [zh]⟩⟩, hw.sub (by simp only [List.cons_append, List.append_assoc, List.nil_append]; exact hS_)⟩
  by_cases hleft : 0 < m.left
  · obtain ⟨H0, hH0⟩ : ∃ H0, m.held.set k 0 = H0 := ⟨_, rfl⟩
    obtain ⟨H1, hH1⟩ : ∃ H1, H0.set k (0 + 1) = H1 := ⟨_, rfl⟩
    obtain ⟨W1, hW1⟩ : ∃ W1, m.swept.set k (s + 1) = W1 := ⟨_, rfl⟩
    have hh0 : H0[k]? = some 0 := by rw [← hH0, List.getElem?_set_self hhl]
    have g4 := (Pat.flat encI_len H0 []).one hh0 rfl
    have e : Srt.takeF caps m ⟨x, k⟩ = ⟨m.stackers.set k (xs ++ [x]), W1, m.over, m.rej, m.evs ++ [⟨2, x, k⟩, ⟨1, x, k⟩], H1, m.left - 1⟩ := by
      unfold Srt.takeF
      simp only [Int.toNat_natCast, dc, dh]
      rw [if_neg (by omega), if_neg hlt, if_pos hleft]
      have d0 : H0.getD k 0 = 0 := by simp [hh0]
      simp only [Srt.stack, Srt.note, Srt.putAt, Seq.addAt, Int.toNat_natCast, dx, ds, hH0, d0, hH1, hW1]
    rw [e]
    refine f_enterF2 Try.func66 rfl Try.ntmps66 rfl (hw) ?_
    repeat' (first | ((with_reducible apply o_note); exact rfl; exact rfl; exact rfl; (focus (repeat (first | exact Rem.hd | apply Rem.tl | apply Rem.right))); assumption; exact rL_; (exact fun w hw => SV.lit [(⟨2, x, k⟩ : Srt.Ev), ⟨1, x, k⟩] encE_len hw (by exact aT_) rfl rfl (by decide)); exact ⟨by omega, by simp⟩; intro a9 c9 N9 hO9; have oN9 := hO9.own) | ((with_reducible apply c_regionA0 (id := 15) (specA 16 N hN [(16, appφ 3 1 encI (xs ++ [x]))])); kernel_rfl; kernel_rfl; exact rfl; exact rL_) | ((with_reducible apply q_appA (enc := encI) (xs := xs) (ys := [x]) (H := N)); infer_instance; infer_instance; infer_instance; exact rfl; exact encI_len; exact encI_one; exact rfl; exact rfl; exact rfl; exact rfl; exact sJ_; exact rfl; exact q2; (exact fun w hw => SV.lit [x] encI_len hw (by exact aT_) rfl rfl (by decide)); (constructor <;> (try simp only [List.length_cons, List.length_nil]) <;> omega); intro a' cap' N' Rr' hO' hN' hR') | ((apply q_storeS (enc := encS) (kl := 1) (m := k) (o := 0) (xs := ss) (z := (sa, _, sc)) ((a', (xs ++ [x]).length, cap') : SD)); infer_instance; exact rfl; exact rfl; exact aT_; exact q1; exact encS_len; omega; exact rfl; exact rfl; (intro u hu; simp at hu; subst hu; rfl); (exact Nat.le_refl _); exact rfl; exact uP_) | (apply o_storeT (enc := encI) (k := 1) (m := k) (o := 0) (xs := (m.held)) (0) (hH0); infer_instance; exact rfl; exact rfl; exact aT_; exact (hh); exact encI_len; omega; exact rfl; exact rfl; (intro u hu; simp at hu; first | (subst hu; rfl) | (rcases hu with rfl | rfl <;> rfl) | (rcases hu with rfl | rfl | rfl <;> rfl) | (rcases hu with rfl | rfl | rfl | rfl <;> rfl)); (first | decide | exact Nat.le_refl _ | (simp only [List.length_cons, List.length_nil]; decide)); exact rfl; exact uP_) | (apply o_storeT (enc := encI) (k := 1) (m := k) (o := 0) (xs := (m.swept)) (s + 1) (hW1); infer_instance; exact rfl; exact rfl; exact aT_; exact (hs); exact encI_len; omega; exact rfl; exact rfl; (intro u hu; simp at hu; first | (subst hu; rfl) | (rcases hu with rfl | rfl <;> rfl) | (rcases hu with rfl | rfl | rfl <;> rfl) | (rcases hu with rfl | rfl | rfl | rfl <;> rfl)); (first | decide | exact Nat.le_refl _ | (simp only [List.length_cons, List.length_nil]; decide)); exact rfl; exact uP_) | (apply o_storeT (enc := encI) (k := 1) (m := k) (o := 0) (xs := (H0)) (0 + 1) (hH1); infer_instance; exact rfl; exact rfl; exact aT_; exact (hh0); exact encI_len; omega; exact rfl; exact rfl; (intro u hu; simp at hu; first | (subst hu; rfl) | (rcases hu with rfl | rfl <;> rfl) | (rcases hu with rfl | rfl | rfl <;> rfl) | (rcases hu with rfl | rfl | rfl | rfl <;> rfl)); (first | decide | exact Nat.le_refl _ | (simp only [List.length_cons, List.length_nil]; decide)); exact rfl; exact uP_) | ((with_reducible first | apply o_move | apply o_assign | apply o_faddr0 | apply o_nilCheck); exact rfl; exact rfl) | ((with_reducible apply gdo_load); first | refine wo_load (h := ?_) | refine wo_loadAll (h := ?_) | refine wo_loadC (h := ?_) | refine wo_ldV (h := ?_) | refine wo_ldF (h := ?_)) | ((with_reducible first | apply o_lss | apply o_gtr); exact rfl; exact rfl; exact rfl) | ((with_reducible first | apply o_add | apply o_sub); exact rfl; exact rfl; exact rfl; (constructor <;> omega)) | ((with_reducible apply o_alloc); exact rfl; intro _) | ((with_reducible apply o_box); exact rfl; exact rfl; exact rfl; intro _) | ((with_reducible apply gdo_store); first | refine wo_store1 (h := ?_) | refine wo_storeA (h := ?_)) | ((with_reducible apply gdo_build); first | refine wo_build (h := ?_)) | ((with_reducible apply gdo_buildSlice); refine wo_buildSlice (h := fun _ => ?_)) | ((with_reducible apply o_idx); infer_instance; infer_instance; exact rfl; exact rfl; (first | exact rfl | omega); exact rfl; (first | assumption | omega | decide)) | ((with_reducible first | apply c_seq | apply c_block | apply c_region | apply c_nil | apply c_ret | apply c_exit | apply c_skip)) | ((with_reducible apply c_cond_t); exact rfl; exact tT_) | ((with_reducible apply c_cond_f); exact rfl; exact fF_) | ((with_reducible first | apply e_then | apply e_then_ret | apply e_then_exit | apply e_in | apply e_in_ret | apply e_in_same)) | ((with_reducible apply c_regionD0 (id := 1) []); kernel_rfl; kernel_rfl) | ((with_reducible apply c_regionD0 (id := 8) []); kernel_rfl; kernel_rfl) | ((with_reducible apply q_nil); try simp only [ents, List.cons_append, List.nil_append]) | ((with_reducible first | apply q_move | apply q_assign | apply q_faddr0); exact rfl; exact rfl) | ((with_reducible apply gdq_load); first | refine wq_load (h := ?_) | refine wq_loadAll (h := ?_) | refine wq_loadC (h := ?_) | refine wq_ldF (h := ?_)) | ((with_reducible first | apply q_lss | apply q_gtr); exact rfl; exact rfl; exact rfl) | ((with_reducible apply gdq_nilCheck); refine wq_nilCheck (h := ?_)) | ((with_reducible apply q_idx); infer_instance; infer_instance; exact rfl; exact rfl; (first | exact rfl | omega); exact rfl; (first | assumption | omega | decide)) | ((with_reducible apply gdq_buildSlice); refine wq_buildSlice (h := fun _ => ?_)))
    apply r_body'; apply res0 Try.results66; intro w' hw
    exact ⟨_, _, rfl, ⟨rfl, bs, bw, bh, ao, co, ar, cr, a9, c9, _, _, NO, NR, N9, rfl, q5 _ _ _ hO', hO, hR, hO9, ⟨by simp [zs], by rw [← hW1]; simp [zw], by rw [← hH1, ← hH0]; simp [zh]⟩⟩, hw.sub (by simp only [List.cons_append, List.append_assoc, List.nil_append]; exact hS_)⟩
  · have e : Srt.takeF caps m ⟨x, k⟩ = ⟨m.stackers, m.swept, m.over ++ [x], m.rej, m.evs ++ [⟨3, x, k⟩], m.held, m.left⟩ := by
      unfold Srt.takeF
      simp only [Int.toNat_natCast, dc, dh]
      rw [if_neg (by omega), if_neg hlt, if_neg hleft]
      rfl
    rw [e]
    refine f_enterF2 Try.func66 rfl Try.ntmps66 rfl (hw) ?_
    repeat' (first | (apply o_appH (enc := encI) (ys := [(x)]); infer_instance; infer_instance; infer_instance; exact rfl; exact encI_len; exact encI_one; exact rfl; exact rfl; exact rfl; assumption; exact rL_; (exact fun w hw => SV.lit [(x)] encI_len hw (by exact aT_) rfl rfl (by decide)); (first | decide | (constructor <;> (try simp only [List.length_cons, List.length_nil]) <;> omega) | (constructor <;> simp <;> omega)); intro a1 c1 N1 hO1; have oN1 := hO1.own) | ((with_reducible apply o_note); exact rfl; exact rfl; exact rfl; (focus (repeat (first | exact Rem.hd | apply Rem.tl | apply Rem.right))); assumption; exact rL_; (exact fun w hw => SV.lit [(⟨3, x, k⟩ : Srt.Ev)] encE_len hw (by exact aT_) rfl rfl (by decide)); exact ⟨by omega, by simp⟩; intro a9 c9 N9 hO9; have oN9 := hO9.own) | ((with_reducible first | apply o_move | apply o_assign | apply o_faddr0 | apply o_nilCheck); exact rfl; exact rfl) | ((with_reducible apply gdo_load); first | refine wo_load (h := ?_) | refine wo_loadAll (h := ?_) | refine wo_loadC (h := ?_) | refine wo_ldV (h := ?_) | refine wo_ldF (h := ?_)) | ((with_reducible first | apply o_lss | apply o_gtr); exact rfl; exact rfl; exact rfl) | ((with_reducible apply o_alloc); exact rfl; intro _) | ((with_reducible apply o_box); exact rfl; exact rfl; exact rfl; intro _) | ((with_reducible apply gdo_store); first | refine wo_store1 (h := ?_) | refine wo_storeA (h := ?_)) | ((with_reducible apply gdo_build); first | refine wo_build (h := ?_)) | ((with_reducible apply gdo_buildSlice); refine wo_buildSlice (h := fun _ => ?_)) | ((with_reducible first | apply c_seq | apply c_block | apply c_region | apply c_nil | apply c_ret | apply c_exit | apply c_skip)) | ((with_reducible apply c_cond_f); exact rfl; exact fF_) | ((with_reducible first | apply e_then | apply e_then_ret | apply e_then_exit | apply e_in | apply e_in_ret | apply e_in_same)) | ((with_reducible apply c_regionD0 (id := 1) []); kernel_rfl; kernel_rfl) | ((with_reducible apply c_regionD0 (id := 8) []); kernel_rfl; kernel_rfl) | ((with_reducible apply q_nil); try simp only [ents, List.cons_append, List.nil_append]) | ((with_reducible first | apply q_move | apply q_assign | apply q_faddr0); exact rfl; exact rfl) | ((with_reducible apply gdq_load); first | refine wq_load (h := ?_) | refine wq_loadAll (h := ?_) | refine wq_loadC (h := ?_) | refine wq_ldF (h := ?_)) | ((with_reducible first | apply q_lss | apply q_gtr); exact rfl; exact rfl; exact rfl) | ((with_reducible apply gdq_nilCheck); refine wq_nilCheck (h := ?_)) | ((with_reducible apply q_idx); infer_instance; infer_instance; exact rfl; exact rfl; (first | exact rfl | omega); exact rfl; (first | assumption | omega | decide)))
    apply r_body; apply res0 Try.results66; intro w' hw
    exact ⟨_, _, rfl, ⟨rfl, bs, bw, bh, a1, c1, ar, cr, a9, c9, ss, _, N1, NR, N9, rfl, hS, hO1, hR, hO9, ⟨zs, zw, zh⟩⟩, hw.sub (by simp only [List.cons_append, List.append_assoc, List.nil_append]; exact hS_)⟩
end Go.Proofs.Ytkhaemjoekfhiaa
namespace Go.Proofs.Ytkhaemjoekfhiaa
open Go Go.Sx Go.RowKit
attribute [local irreducible] WL WC WQ WR St Exit.then Exit.inBlock Exit.noGoto bodyPost roundPost beginK YR RG BM Calls B AgainD MeetD
/-! ## a pass -/
/-- v is a pass that shows what a machine has, in rows of the call's own. -/
def passOW (m : Srt.M) (v : Value) (N : List Ent) : Prop := ∃ a1 c1 a2 c2 a3 c3 a4 c4 a5 c5 ss N1 M1 N2 N3 N4 N5, v = .agg #[.slice a1 m.stackers.length c1, .slice a2 m.swept.length c2, .slice a3 m.over.length c3, .slice a4 m.rej.length c4, .slice a5 m.evs.length c5] ∧
  OW 43 1 encS (.slice a1 m.stackers.length c1) ss N1 ∧ LL 3 1 encI ss m.stackers M1 ∧ OW 3 1 encI (.slice a2 m.swept.length c2) m.swept N2 ∧ OW 3 1 encI (.slice a3 m.over.length c3) m.over N3 ∧ OW 3 1 encI (.slice a4 m.rej.length c4) m.rej N4 ∧ OW 164 3 encE (.slice a5 m.evs.length c5) m.evs N5 ∧
  N = N1 ++ (M1 ++ (N2 ++ (N3 ++ (N4 ++ N5))))
theorem passOW.own {m : Srt.M} {v : Value} {N : List Ent} (h : passOW m v N) : ∀ x ∈ N, x.own = true := by
  obtain ⟨a1, c1, a2, c2, a3, c3, a4, c4, a5, c5, ss, N1, M1, N2, N3, N4, N5, rfl, h1, h2, h3, h4, h5, h6, rfl⟩ := h
  intro x hx
  simp only [List.mem_append] at hx
  rcases hx with hx | hx | hx | hx | hx | hx
  · exact h1.own x hx
  · exact h2.own x hx
  · exact h3.own x hx
  · exact h4.own x hx
  · exact h5.own x hx
  · exact h6.own x hx
theorem passOW.zero : passOW (Srt.M.new 0 0) (.agg #[.slice none 0 0, .slice none 0 0, .slice none 0 0, .slice none 0 0, .slice none 0 0]) [] :=
  ⟨none, 0, none, 0, none, 0, none, 0, none, 0, [], [], [], [], [], [], [], rfl, OW.nil, LL.nil, OW.nil, OW.nil, OW.nil, OW.nil, rfl⟩
theorem ow_rowI {b n : Nat} {xs : List Int} (h : xs.length = n) (hn : n ≤ 1000000) : OW 3 1 encI (.slice (some ⟨b, 0, none⟩) n n) xs [⟨b, Ce (xs.flatMap encI ++ []) 3, true⟩] := by
  subst h
  exact OW.row (by rw [List.append_nil, flat_len encI_len]) ⟨Nat.le_refl _, by omega⟩
theorem ow_rowS {b n : Nat} {ss : List SD} (h : ss.length = n) (hn : n ≤ 1000000) : OW 43 1 encS (.slice (some ⟨b, 0, none⟩) n n) ss [⟨b, Ce (ss.flatMap encS ++ []) 43, true⟩] := by
  subst h
  exact OW.row (by rw [List.append_nil, flat_len encS_len]) ⟨Nat.le_refl _, by omega⟩
set_option maxHeartbeats 16000000 in
theorem play_calls {cv fv : Value} {caps : List Int} {s : Int} {l : List Srt.Fd} (w : World) (h : SV w 1 encI cv caps) (hl : SV w 2 encF fv l) (hn : caps.length ≤ 64) (hs : -9223372036854775808 ≤ s ∧ s ≤ 9223372036854775807) (hf : ∀ f ∈ l, f.st < caps.length) (hlen : l.length ≤ 5000) :
    Calls Try.prog 60 #[cv, .int .i64 s, fv] w fun e w' => ∃ v N, e = .returned v ∧ passOW (Srt.playF caps s l) v N ∧ Rep w w' N ∧ ∀ x ∈ N, x.own = true := by
  obtain ⟨a0, ca, rfl, hca, hop⟩ := hl.open
  refine f_enter3 Try.func60 rfl Try.ntmps60 rfl (Rep.start w) ?_
  repeat' (first | ((first | ((with_reducible apply o_call_new (f := 65)); exact rfl) | ((with_reducible apply q_call_new (f := 65)); exact rfl; exact rfl; exact sJ_)); exact eV_; exact (fun w hw => new_calls w (h.keep hw (by exact aO_)) hn); rintro v N ⟨b, rfl, hm0, oN⟩ <;> (try simp only [List.cons_append, List.nil_append, List.append_assoc])) | ((with_reducible first | apply o_move | apply o_assign | apply o_faddr0 | apply o_nilCheck); exact rfl; exact rfl) | ((with_reducible apply o_alloc); exact rfl; intro _) | ((with_reducible apply o_len); infer_instance; exact rfl; exact rfl) | ((with_reducible first | apply c_seq | apply c_block | apply c_region | apply c_nil | apply c_ret | apply c_exit | apply c_skip)) | ((with_reducible first | apply e_then | apply e_then_ret | apply e_then_exit | apply e_in | apply e_in_ret | apply e_in_same)))
  rename_i b6
  apply c_loop (σ := Nat × List Ent) (Fs := fun t => [(15, .int .i64 t.1), (14, .int .i64 l.length), (13, .slice a0 l.length ca), (7, ptr b), (6, ptr b6)])
    (Ls := fun t => t.2 ++ [⟨b6, Ce [.slice none 0 0, .slice none 0 0, .slice none 0 0, .slice none 0 0, .slice none 0 0] 48, true⟩])
    (I := fun t => t.1 ≤ l.length ∧ mach caps.length b cv (Srt.playF caps s (l.take t.1)) t.2) (μ := fun t => l.length - t.1) (s0 := (0, N))
  · exact ⟨Nat.zero_le _, by simpa [Srt.playF] using hm0⟩
  · exact fS_
  · exact hS_
  rintro ⟨i, G⟩ ⟨hi, hm⟩
  dsimp only at hi hm ⊢
  have oG := hm.own
  by_cases hlt : i < l.length
  · obtain ⟨⟨x, st⟩, hx⟩ : ∃ f, l[i]? = some f := ⟨_, List.getElem?_eq_getElem hlt⟩
    obtain ⟨b1, off, cc, e, fz, rfl, hk, hp⟩ := hop (by omega)
    have g1 := hp.get hx
    have hst := hf _ (List.mem_of_getElem? hx)
    dsimp only at hst
    have hbd := Srt.playF_bd caps hs (l.take i)
    have htl : (l.take i).length ≤ 5000 := by rw [List.length_take]; omega
    have e1 : Srt.playF caps s (l.take (i + 1)) = Srt.takeF caps (Srt.playF caps s (l.take i)) ⟨x, st⟩ := by rw [take_snoc hx, Srt.playF_snoc]
    repeat' (first | ((with_reducible apply o_call_frame (f := 66) (G := G) (Φ := fun v G' => v = .tuple #[] ∧ mach caps.length b cv (Srt.takeF caps (Srt.playF caps s (l.take i)) ⟨x, st⟩) G')); exact rfl; exact rfl; exact eV_; exact rL_; (exact fun w hw => by rw [Array.append_empty]; exact take_calls h (show AO _ by exact aO_) hw hm hbd (by omega) hst); rintro v G' ⟨rfl, hm'⟩; have oG' := hm'.own) | ((with_reducible first | apply o_move | apply o_assign | apply o_faddr0 | apply o_nilCheck); exact rfl; exact rfl) | ((with_reducible apply gdo_load); first | refine wo_load (h := ?_) | refine wo_loadAll (h := ?_) | refine wo_loadC (h := ?_) | refine wo_ldV (h := ?_) | refine wo_ldF (h := ?_)) | ((with_reducible apply o_lss); exact rfl; exact rfl; exact rfl) | ((with_reducible apply o_add); exact rfl; exact rfl; exact rfl; (constructor <;> omega)) | ((with_reducible apply o_alloc); exact rfl; intro _) | ((with_reducible apply gdo_store); first | refine wo_store1 (h := ?_) | refine wo_storeA (h := ?_)) | ((with_reducible apply o_idx); infer_instance; infer_instance; exact rfl; exact rfl; (first | exact rfl | omega); exact rfl; (first | assumption | omega | decide)) | ((with_reducible first | apply c_seq | apply c_block | apply c_region | apply c_nil | apply c_ret | apply c_exit | apply c_skip)) | ((with_reducible apply c_cond_t); exact rfl; exact tT_) | ((with_reducible first | apply e_then | apply e_then_ret | apply e_then_exit | apply e_in | apply e_in_ret | apply e_in_same)))
    refine l_again (i + 1, G') ⟨by dsimp only; omega, by dsimp only; rw [e1]; exact hm'⟩ (by dsimp only; omega) ?_ ?_
    · exact fS_
    · exact hS_
  rw [List.take_of_length_le (by omega)] at hm
  obtain ⟨bs, bw, bh, ao, co, ar, cr, ae, ce, ss, ML, NO, NR, NE, rfl, hS, hO, hR, hE, hz⟩ := hm
  have h1 := hS.own
  have h2 := hO.own
  have h3 := hR.own
  have h4 := hE.own
  simp only [List.cons_append, List.append_assoc, List.nil_append]
  generalize Srt.playF caps s l = m at *
  repeat' (first | ((with_reducible apply o_ldV (l := [slc bs caps.length, slc bw caps.length, .slice ao m.over.length co, .slice ar m.rej.length cr, .slice ae m.evs.length ce])); infer_instance; infer_instance; exact rfl; exact kN_; (intro j v hj; rcases j with _ | _ | _ | _ | _ | j <;> simp_all); exact rfl; exact rfl) | ((with_reducible first | apply o_move | apply o_assign | apply o_faddr0 | apply o_nilCheck); exact rfl; exact rfl) | ((with_reducible apply o_lss); exact rfl; exact rfl; exact rfl) | ((with_reducible apply gdo_store); first | refine wo_store1 (h := ?_) | refine wo_storeA (h := ?_)) | ((with_reducible first | apply c_seq | apply c_block | apply c_region | apply c_nil | apply c_ret | apply c_exit | apply c_skip)) | ((with_reducible apply c_cond_f); exact rfl; exact fF_) | ((with_reducible first | apply e_then | apply e_then_ret | apply e_then_exit | apply e_in | apply e_in_ret | apply e_in_same)))
  apply r_body; apply res1 Try.results60; exact rV_; intro w' hw
  refine ⟨_, ⟨bs, Ce (ss.flatMap encS ++ []) 43, true⟩ :: (ML ++ (⟨bw, Ce (m.swept.flatMap encI ++ []) 3, true⟩ :: (NO ++ (NR ++ NE)))), rfl, ⟨some ⟨bs, 0, none⟩, caps.length, some ⟨bw, 0, none⟩, caps.length, ao, co, ar, cr, ae, ce, ss, [_], ML, [_], NO, NR, NE, ?_, ?_, hS, ?_, hO, hR, hE, rfl⟩, ?_, ?_⟩
  · rw [hz.st, hz.sw]
  · rw [hz.st]; exact ow_rowS (by rw [hS.len, hz.st]) (by omega)
  · rw [hz.sw]; exact ow_rowI hz.sw (by omega)
  · refine hw.sub ?_
    conv => arg 1; rw [← List.append_nil NE]
    exact hS_
  · rw [← List.append_nil NE]
    exact show AO _ by exact aO_
/-! ## Run, Need, Leave -/
theorem capok_calls {v : Value} {caps : List Int} (w : World) (h : SV w 1 encI v caps) : Calls Try.prog 58 #[v] w fun e w' => e = .returned (.bool (B (Srt.capsOk caps))) ∧ Below w.heap.size w w' := by
  obtain ⟨a0, ca, rfl, hca, hop⟩ := h.open
  by_cases hl : 1 ≤ caps.length ∧ caps.length ≤ 64
  case neg =>
    rw [B_false (fun h => hl h.1)]
    refine f_enter1 Try.func58 rfl Try.ntmps58 rfl (Rep.start w) ?_
    repeat' (first | ((with_reducible first | apply o_move | apply o_assign); exact rfl; exact rfl) | ((with_reducible first | apply o_lss | apply o_gtr); exact rfl; exact rfl; exact rfl) | ((with_reducible apply o_pick_t); exact rfl; exact tT_; exact rfl; exact rfl) | ((with_reducible apply o_pick_f); exact rfl; exact fF_; exact rfl; exact rfl) | ((with_reducible apply o_len); infer_instance; exact rfl; exact rfl) | ((with_reducible first | apply g_run); exact rfl; exact gG_) | ((with_reducible apply g_skip); exact rfl; exact gG_; exact rfl) | ((with_reducible first | apply c_seq | apply c_block | apply c_region | apply c_nil | apply c_ret | apply c_exit | apply c_skip)) | ((with_reducible apply c_cond_t); exact rfl; exact tT_) | ((with_reducible first | apply e_then | apply e_then_ret | apply e_then_exit | apply e_in | apply e_in_ret | apply e_in_same)) | ((with_reducible apply g_split_d); exact rfl; intro hcond; rotate_left; intro hcond; rotate_left))
    all_goals first
      | (exfalso; omega)
      | (apply r_body; apply res1 Try.results58; exact rV_; intro w' hw; exact ⟨rfl, hw.below (by simp)⟩)
  refine f_enter1 Try.func58 rfl Try.ntmps58 rfl (Rep.start w) ?_
  repeat' (first | ((with_reducible first | apply o_move | apply o_assign); exact rfl; exact rfl) | ((with_reducible first | apply o_lss | apply o_gtr); exact rfl; exact rfl; exact rfl) | ((with_reducible apply o_pick_f); exact rfl; exact fF_; exact rfl; exact rfl) | ((with_reducible apply o_len); infer_instance; exact rfl; exact rfl) | ((with_reducible first | apply g_run); exact rfl; exact gG_) | ((with_reducible first | apply c_seq | apply c_block | apply c_region | apply c_nil | apply c_ret | apply c_exit | apply c_skip)) | ((with_reducible apply c_cond_f); exact rfl; exact fF_) | ((with_reducible first | apply e_then | apply e_then_ret | apply e_then_exit | apply e_in | apply e_in_ret | apply e_in_same)))
  apply c_loop (σ := Nat) (Fs := fun i => [(15, .int .i64 i), (14, .int .i64 caps.length), (13, .slice a0 caps.length ca)])
    (Ls := fun i => []) (I := fun i => i ≤ caps.length ∧ ∀ c ∈ caps.take i, 1 ≤ c ∧ c ≤ 100000) (μ := fun i => caps.length - i) (s0 := 0)
  · exact ⟨Nat.zero_le _, by simp⟩
  · exact fS_
  · exact hS_
  rintro i ⟨hi, hin⟩
  by_cases hlt : i < caps.length
  · obtain ⟨c, hx⟩ : ∃ c, caps[i]? = some c := ⟨_, List.getElem?_eq_getElem hlt⟩
    obtain ⟨b, off, cc, e, fz, rfl, hk, hp⟩ := hop (by omega)
    have h1 := hp.one hx rfl
    by_cases hc : 1 ≤ c ∧ c ≤ 100000
    · repeat' (first | ((with_reducible first | apply o_move | apply o_assign); exact rfl; exact rfl) | ((with_reducible apply gdo_load); first | refine wo_load (h := ?_) | refine wo_loadAll (h := ?_) | refine wo_loadC (h := ?_) | refine wo_ldV (h := ?_) | refine wo_ldF (h := ?_)) | ((with_reducible first | apply o_lss | apply o_gtr); exact rfl; exact rfl; exact rfl) | ((with_reducible apply o_add); exact rfl; exact rfl; exact rfl; (constructor <;> omega)) | ((with_reducible apply o_pick_f); exact rfl; exact fF_; exact rfl; exact rfl) | ((with_reducible apply o_idx); infer_instance; infer_instance; exact rfl; exact rfl; (first | exact rfl | omega); exact rfl; (first | assumption | omega | decide)) | ((with_reducible first | apply g_run); exact rfl; exact gG_) | ((with_reducible first | apply c_seq | apply c_block | apply c_region | apply c_nil | apply c_ret | apply c_exit | apply c_skip)) | ((with_reducible apply c_cond_t); exact rfl; exact tT_) | ((with_reducible apply c_cond_f); exact rfl; exact fF_) | ((with_reducible first | apply e_then | apply e_then_ret | apply e_then_exit | apply e_in | apply e_in_ret | apply e_in_same)))
      refine l_again (i + 1) ⟨by omega, take_all hx hin hc⟩ (by omega) ?_ ?_
      · exact fS_
      · exact hS_
    · rw [B_false (fun h => hc (h.2 c (List.mem_of_getElem? hx)))]
      repeat' (first | ((with_reducible first | apply o_move | apply o_assign); exact rfl; exact rfl) | ((with_reducible apply gdo_load); first | refine wo_load (h := ?_) | refine wo_loadAll (h := ?_) | refine wo_loadC (h := ?_) | refine wo_ldV (h := ?_) | refine wo_ldF (h := ?_)) | ((with_reducible first | apply o_lss | apply o_gtr); exact rfl; exact rfl; exact rfl) | ((with_reducible apply o_pick_t); exact rfl; exact tT_; exact rfl; exact rfl) | ((with_reducible apply o_pick_f); exact rfl; exact fF_; exact rfl; exact rfl) | ((with_reducible apply o_idx); infer_instance; infer_instance; exact rfl; exact rfl; (first | exact rfl | omega); exact rfl; (first | assumption | omega | decide)) | ((with_reducible first | apply g_run); exact rfl; exact gG_) | ((with_reducible apply g_skip); exact rfl; exact gG_; exact rfl) | ((with_reducible first | apply c_seq | apply c_block | apply c_region | apply c_nil | apply c_ret | apply c_exit | apply c_skip)) | ((with_reducible apply c_cond_t); exact rfl; exact tT_) | ((with_reducible first | apply e_then | apply e_then_ret | apply e_then_exit | apply e_in | apply e_in_ret | apply e_in_same)) | ((with_reducible apply g_split_d); exact rfl; intro hcond; rotate_left; intro hcond; rotate_left))
      all_goals first
        | (exfalso; omega)
        | (apply r_body; apply res1 Try.results58; exact rV_; intro w' hw; exact ⟨rfl, hw.below (by simp)⟩)
  · rw [List.take_of_length_le (by omega)] at hin
    rw [B_true ⟨hl, hin⟩]
    repeat' (first | ((with_reducible first | apply o_move | apply o_assign); exact rfl; exact rfl) | ((with_reducible first | apply o_lss | apply o_gtr); exact rfl; exact rfl; exact rfl) | ((with_reducible first | apply c_seq | apply c_block | apply c_region | apply c_nil | apply c_ret | apply c_exit | apply c_skip)) | ((with_reducible apply c_cond_f); exact rfl; exact fF_) | ((with_reducible first | apply e_then | apply e_then_ret | apply e_then_exit | apply e_in | apply e_in_ret | apply e_in_same)))
    apply r_body; apply res1 Try.results58; exact rV_; intro w' hw
    exact ⟨rfl, hw.below (by simp)⟩
theorem capok_yes {v : Value} {caps : List Int} (hm : Srt.capsOk caps) (w : World) (h : SV w 1 encI v caps) : Calls Try.prog 58 #[v] w fun e w' => e = .returned (.bool true) ∧ Below w.heap.size w w' := by
  have := capok_calls w h; rwa [B_true hm] at this
theorem capok_no {v : Value} {caps : List Int} (hm : ¬ Srt.capsOk caps) (w : World) (h : SV w 1 encI v caps) : Calls Try.prog 58 #[v] w fun e w' => e = .returned (.bool false) ∧ Below w.heap.size w w' := by
  have := capok_calls w h; rwa [B_false hm] at this
set_option maxHeartbeats 4000000 in
theorem fed_calls {fv : Value} {n : Nat} {l : List Srt.Fd} (w : World) (h : SV w 2 encF fv l) : Calls Try.prog 59 #[.int .i64 n, fv] w fun e w' => e = .returned (.int .i64 (Srt.fedF n l)) ∧ Below w.heap.size w w' := by
  obtain ⟨a0, ca, rfl, hca, hop⟩ := h.open
  by_cases hbig : 2000 < l.length
  · have e : Srt.fedF n l = 5 := by unfold Srt.fedF; rw [if_pos hbig]
    rw [e]
    refine f_enter2 Try.func59 rfl Try.ntmps59 rfl (Rep.start w) ?_
    repeat' (first | ((with_reducible first | apply o_move | apply o_assign | apply o_faddr0); exact rfl; exact rfl) | ((with_reducible first | apply o_lss | apply o_gtr | apply o_geq); exact rfl; exact rfl; exact rfl) | ((with_reducible apply o_len); infer_instance; exact rfl; exact rfl) | ((with_reducible first | apply c_seq | apply c_block | apply c_region | apply c_nil | apply c_ret | apply c_exit | apply c_skip)) | ((with_reducible apply c_cond_t); exact rfl; exact tT_) | ((with_reducible first | apply e_then | apply e_then_ret | apply e_then_exit | apply e_in | apply e_in_ret | apply e_in_same)))
    apply r_body; apply res1 Try.results59; exact rV_; intro w' hw
    exact ⟨rfl, hw.below (by simp)⟩
  have e0 : Srt.fedF n l = if Srt.badF n [] l = true then 291 else 0 := by unfold Srt.fedF; rw [if_neg hbig]
  refine f_enter2 Try.func59 rfl Try.ntmps59 rfl (Rep.start w) ?_
  repeat' (first | ((with_reducible first | apply o_move | apply o_assign | apply o_faddr0); exact rfl; exact rfl) | ((with_reducible first | apply o_lss | apply o_gtr | apply o_geq); exact rfl; exact rfl; exact rfl) | ((with_reducible apply o_len); infer_instance; exact rfl; exact rfl) | ((with_reducible apply o_makeMap); infer_instance; exact rfl; exact rfl; intro _) | ((with_reducible first | apply c_seq | apply c_block | apply c_region | apply c_nil | apply c_ret | apply c_exit | apply c_skip)) | ((with_reducible apply c_cond_f); exact rfl; exact fF_) | ((with_reducible first | apply e_then | apply e_then_ret | apply e_then_exit | apply e_in | apply e_in_ret | apply e_in_same)))
  rename_i bm
  apply c_loop (σ := Nat) (Fs := fun i => [(16, .int .i64 i), (15, .int .i64 l.length), (14, .slice a0 l.length ca), (5, .map (some bm)), (0, .int .i64 n)])
    (Ls := fun i => [⟨bm, MO (setM .i64 ((l.take i).map Srt.Fd.item)), true⟩]) (I := fun i => i ≤ l.length ∧ ((l.take i).map Srt.Fd.item).Nodup ∧ Srt.badF n [] l = Srt.badF n ((l.take i).map Srt.Fd.item) (l.drop i)) (μ := fun i => l.length - i) (s0 := 0)
  · exact ⟨Nat.zero_le _, by simp, by simp⟩
  · exact fS_
  · exact hS_
  rintro i ⟨hi, hnd, hw0⟩
  by_cases hlt : i < l.length
  · obtain ⟨f, hx⟩ : ∃ s, l[i]? = some s := ⟨_, List.getElem?_eq_getElem hlt⟩
    obtain ⟨b, off, cc, e, fz, rfl, hk, hp⟩ := hop (by omega)
    have h1 := hp.get hx
    rw [drop_at hx, Srt.badF] at hw0
    have e1 : (l.take (i + 1)).map Srt.Fd.item = (l.take i).map Srt.Fd.item ++ [f.item] := by rw [take_snoc hx]; simp
    by_cases hok : Srt.Fd.ok n f
    · have hok' := hok
      unfold Srt.Fd.ok at hok'
      by_cases hm : f.item ∈ (l.take i).map Srt.Fd.item
      · rw [if_neg (fun h => h.2 hm)] at hw0
        rw [e0, hw0, if_pos rfl]
        repeat' (first | ((with_reducible first | apply o_move | apply o_assign | apply o_faddr0); exact rfl; exact rfl) | ((with_reducible apply gdo_load); first | refine wo_load (h := ?_) | refine wo_loadAll (h := ?_) | refine wo_loadC (h := ?_) | refine wo_ldV (h := ?_) | refine wo_ldF (h := ?_)) | ((with_reducible first | apply o_lss | apply o_gtr | apply o_geq); exact rfl; exact rfl; exact rfl) | ((with_reducible apply o_pick_t); exact rfl; exact tT_; exact rfl; exact rfl) | ((with_reducible apply o_pick_f); exact rfl; exact fF_; exact rfl; exact rfl) | ((with_reducible first | apply o_alloc | apply o_makeMap0); exact rfl; intro _) | ((with_reducible apply gdo_store); first | refine wo_store1 (h := ?_) | refine wo_storeA (h := ?_)) | ((with_reducible apply gdo_lookup); refine wo_lookS (h := ?_)) | ((with_reducible apply o_idx); infer_instance; infer_instance; exact rfl; exact rfl; (first | exact rfl | omega); exact rfl; (first | assumption | omega | decide)) | ((with_reducible first | apply g_run); exact rfl; exact gG_) | ((with_reducible apply g_skip); exact rfl; exact gG_; exact rfl) | ((with_reducible first | apply c_seq | apply c_block | apply c_region | apply c_nil | apply c_ret | apply c_exit | apply c_skip)) | ((with_reducible apply c_cond_t); exact rfl; exact tT_) | ((with_reducible first | apply e_then | apply e_then_ret | apply e_then_exit | apply e_in | apply e_in_ret | apply e_in_same)))
        apply r_body; apply res1 Try.results59; exact rV_; intro w' hw
        exact ⟨rfl, hw.below (by simp)⟩
      · rw [if_pos ⟨hok, hm⟩] at hw0
        repeat' (first | ((with_reducible first | apply o_move | apply o_assign | apply o_faddr0); exact rfl; exact rfl) | ((with_reducible apply gdo_load); first | refine wo_load (h := ?_) | refine wo_loadAll (h := ?_) | refine wo_loadC (h := ?_) | refine wo_ldV (h := ?_) | refine wo_ldF (h := ?_)) | ((with_reducible first | apply o_lss | apply o_gtr | apply o_geq); exact rfl; exact rfl; exact rfl) | ((with_reducible apply o_add); exact rfl; exact rfl; exact rfl; (constructor <;> omega)) | ((with_reducible apply o_pick_f); exact rfl; exact fF_; exact rfl; exact rfl) | ((with_reducible first | apply o_alloc | apply o_makeMap0); exact rfl; intro _) | ((with_reducible apply gdo_store); first | refine wo_store1 (h := ?_) | refine wo_storeA (h := ?_)) | ((with_reducible apply gdo_lookup); refine wo_lookS (h := ?_)) | ((with_reducible apply gdo_mapUpdate); refine wo_mapNewS (h := ?_)) | ((with_reducible apply o_idx); infer_instance; infer_instance; exact rfl; exact rfl; (first | exact rfl | omega); exact rfl; (first | assumption | omega | decide)) | ((with_reducible first | apply g_run); exact rfl; exact gG_) | ((with_reducible first | apply c_seq | apply c_block | apply c_region | apply c_nil | apply c_ret | apply c_exit | apply c_skip)) | ((with_reducible apply c_cond_t); exact rfl; exact tT_) | ((with_reducible apply c_cond_f); exact rfl; exact fF_) | ((with_reducible first | apply e_then | apply e_then_ret | apply e_then_exit | apply e_in | apply e_in_ret | apply e_in_same)))
        refine l_again (i + 1) ⟨by omega, ?_, ?_⟩ (by omega) ?_ ?_
        · rw [e1]
          rw [List.nodup_append]
          refine ⟨hnd, by simp, fun a ha b hb e => ?_⟩
          simp at hb; subst hb; subst e; exact hm ha
        · rw [e1]; exact hw0
        · exact fS_
        · simp only [e1]; exact hS_
    · rw [if_neg (fun h => hok h.1)] at hw0
      rw [e0, hw0, if_pos rfl]
      unfold Srt.Fd.ok at hok
      repeat' (first | ((with_reducible first | apply o_move | apply o_assign | apply o_faddr0); exact rfl; exact rfl) | ((with_reducible apply gdo_load); first | refine wo_load (h := ?_) | refine wo_loadAll (h := ?_) | refine wo_loadC (h := ?_) | refine wo_ldV (h := ?_) | refine wo_ldF (h := ?_)) | ((with_reducible first | apply o_lss | apply o_gtr | apply o_geq); exact rfl; exact rfl; exact rfl) | ((with_reducible apply o_pick_t); exact rfl; exact tT_; exact rfl; exact rfl) | ((with_reducible apply o_pick_f); exact rfl; exact fF_; exact rfl; exact rfl) | ((with_reducible first | apply o_alloc | apply o_makeMap0); exact rfl; intro _) | ((with_reducible apply gdo_store); first | refine wo_store1 (h := ?_) | refine wo_storeA (h := ?_)) | ((with_reducible apply gdo_lookup); refine wo_lookS (h := ?_)) | ((with_reducible apply o_idx); infer_instance; infer_instance; exact rfl; exact rfl; (first | exact rfl | omega); exact rfl; (first | assumption | omega | decide)) | ((with_reducible first | apply g_run); exact rfl; exact gG_) | ((with_reducible apply g_skip); exact rfl; exact gG_; exact rfl) | ((with_reducible first | apply c_seq | apply c_block | apply c_region | apply c_nil | apply c_ret | apply c_exit | apply c_skip)) | ((with_reducible apply c_cond_t); exact rfl; exact tT_) | ((with_reducible first | apply e_then | apply e_then_ret | apply e_then_exit | apply e_in | apply e_in_ret | apply e_in_same)) | ((with_reducible apply g_split_d); exact rfl; intro hcond; rotate_left; intro hcond; rotate_left))
      all_goals first
        | (exfalso; omega)
        | (apply r_body; apply res1 Try.results59; exact rV_; intro w' hw; exact ⟨rfl, hw.below (by simp)⟩)
  rw [List.drop_of_length_le (by omega), Srt.badF] at hw0
  rw [e0, hw0, if_neg (by simp)]
  repeat' (first | ((with_reducible first | apply o_move | apply o_assign | apply o_faddr0); exact rfl; exact rfl) | ((with_reducible first | apply o_lss | apply o_gtr | apply o_geq); exact rfl; exact rfl; exact rfl) | ((with_reducible first | apply c_seq | apply c_block | apply c_region | apply c_nil | apply c_ret | apply c_exit | apply c_skip)) | ((with_reducible apply c_cond_f); exact rfl; exact fF_) | ((with_reducible first | apply e_then | apply e_then_ret | apply e_then_exit | apply e_in | apply e_in_ret | apply e_in_same)))
  apply r_body; apply res1 Try.results59; exact rV_; intro w' hw
  exact ⟨rfl, hw.below (by simp)⟩
def runφ (r : Srt.M × Int) (v : Value) (N : List Ent) : Prop := ∃ pv, v = .tuple #[pv, .int .i64 r.2] ∧ passOW r.1 pv N ∧ ∀ x ∈ N, x.own = true
theorem fed_ne {n : Nat} {l : List Srt.Fd} {k : Int} (hk : Srt.fedF n l = k) {fv : Value} (w : World) (h : SV w 2 encF fv l) : Calls Try.prog 59 #[.int .i64 n, fv] w fun e w' => e = .returned (.int .i64 k) ∧ Below w.heap.size w w' := by
  subst hk; exact fed_calls w h
set_option maxHeartbeats 8000000 in
theorem run_calls {cv fv : Value} {caps : List Int} {s : Int} {l : List Srt.Fd} (w : World) (h : SV w 1 encI cv caps) (hl : SV w 2 encF fv l) : Calls Try.prog 45 #[cv, .int .i64 s, fv] w fun e w' => ∃ v N, e = .returned v ∧ runφ (Srt.runF caps s l) v N ∧ Rep w w' N ∧ ∀ x ∈ N, x.own = true := by
  obtain ⟨a0, ca, rfl, hca, hop⟩ := h.open
  by_cases hc : Srt.capsOk caps
  case neg =>
    have e : Srt.runF caps s l = (Srt.M.new 0 0, 290) := by unfold Srt.runF; rw [if_pos hc]
    rw [e]
    refine f_enter3 Try.func45 rfl Try.ntmps45 rfl (Rep.start w) ?_
    repeat' (first | ((first | ((with_reducible apply o_call_pure (f := 58)); exact rfl) | ((with_reducible apply q_call_pure (f := 58)); exact rfl; kernel_rfl; exact rfl; exact sJ_)); exact eV_; exact (fun w hw => capok_no hc w (h.keep hw (by exact aO_)))) | ((with_reducible first | apply o_move | apply o_assign | apply o_not_d); exact rfl; exact rfl) | ((with_reducible apply o_not); exact rfl; exact rfl) | ((with_reducible apply o_alloc); exact rfl; intro _) | ((with_reducible apply gdo_store); first | refine wo_store1 (h := ?_) | refine wo_storeA (h := ?_)) | ((with_reducible apply gdo_build); first | refine wo_build (h := ?_)) | ((with_reducible first | apply c_seq | apply c_block | apply c_region | apply c_nil | apply c_ret | apply c_exit | apply c_skip)) | ((with_reducible apply c_cond_t); exact rfl; exact tT_) | ((with_reducible first | apply e_then | apply e_then_ret | apply e_then_exit | apply e_in | apply e_in_ret | apply e_in_same)))
    apply r_body; apply res2 Try.results45; exact rV_; exact rV_; intro w' hw
    exact ⟨_, [], rfl, ⟨_, rfl, passOW.zero, by simp⟩, hw.sub (by exact hS_), by simp⟩
  by_cases hs : s < 0 ∨ 1000 < s
  · have e : Srt.runF caps s l = (Srt.M.new 0 0, 2) := by unfold Srt.runF; rw [if_neg (fun g => g hc), if_pos hs]
    rw [e]
    refine f_enter3 Try.func45 rfl Try.ntmps45 rfl (Rep.start w) ?_
    repeat' (first | ((first | ((with_reducible apply o_call_pure (f := 58)); exact rfl) | ((with_reducible apply q_call_pure (f := 58)); exact rfl; kernel_rfl; exact rfl; exact sJ_)); exact eV_; exact (fun w hw => capok_yes hc w (h.keep hw (by exact aO_)))) | ((with_reducible first | apply o_move | apply o_assign | apply o_not_d); exact rfl; exact rfl) | ((with_reducible first | apply o_lss | apply o_gtr | apply o_neq); exact rfl; exact rfl; exact rfl) | ((with_reducible apply o_not); exact rfl; exact rfl) | ((with_reducible apply o_pick_t); exact rfl; exact tT_; exact rfl; exact rfl) | ((with_reducible apply o_pick_f); exact rfl; exact fF_; exact rfl; exact rfl) | ((with_reducible apply o_alloc); exact rfl; intro _) | ((with_reducible apply gdo_store); first | refine wo_store1 (h := ?_) | refine wo_storeA (h := ?_)) | ((with_reducible apply gdo_build); first | refine wo_build (h := ?_)) | ((with_reducible first | apply g_run); exact rfl; exact gG_) | ((with_reducible apply g_skip); exact rfl; exact gG_; exact rfl) | ((with_reducible first | apply c_seq | apply c_block | apply c_region | apply c_nil | apply c_ret | apply c_exit | apply c_skip)) | ((with_reducible apply c_cond_t); exact rfl; exact tT_) | ((with_reducible apply c_cond_f); exact rfl; exact fF_) | ((with_reducible first | apply e_then | apply e_then_ret | apply e_then_exit | apply e_in | apply e_in_ret | apply e_in_same)) | ((with_reducible apply g_split_d); exact rfl; intro hcond; rotate_left; intro hcond; rotate_left))
    all_goals first
      | (exfalso; omega)
      | (apply r_body; apply res2 Try.results45; exact rV_; exact rV_; intro w' hw; exact ⟨_, [], rfl, ⟨_, rfl, passOW.zero, by simp⟩, hw.sub (by exact hS_), by simp⟩)
  obtain ⟨k, hk⟩ : ∃ k, Srt.fedF caps.length l = k := ⟨_, rfl⟩
  by_cases hk0 : k = 0
  case neg =>
    have e : Srt.runF caps s l = (Srt.M.new 0 0, k) := by unfold Srt.runF; rw [if_neg (fun g => g hc), if_neg hs, if_pos (by rw [hk]; exact hk0), hk]
    rw [e]
    refine f_enter3 Try.func45 rfl Try.ntmps45 rfl (Rep.start w) ?_
    repeat' (first | ((first | ((with_reducible apply o_call_pure (f := 58)); exact rfl) | ((with_reducible apply q_call_pure (f := 58)); exact rfl; kernel_rfl; exact rfl; exact sJ_)); exact eV_; exact (fun w hw => capok_yes hc w (h.keep hw (by exact aO_)))) | ((first | ((with_reducible apply o_call_pure (f := 59)); exact rfl) | ((with_reducible apply q_call_pure (f := 59)); exact rfl; kernel_rfl; exact rfl; exact sJ_)); exact eV_; exact (fun w hw => fed_ne hk w (hl.keep hw (by exact aO_)))) | ((with_reducible first | apply o_move | apply o_assign | apply o_not_d); exact rfl; exact rfl) | ((with_reducible first | apply o_lss | apply o_gtr | apply o_neq); exact rfl; exact rfl; exact rfl) | ((with_reducible apply o_not); exact rfl; exact rfl) | ((with_reducible apply o_pick_f); exact rfl; exact fF_; exact rfl; exact rfl) | ((with_reducible apply o_alloc); exact rfl; intro _) | ((with_reducible apply gdo_store); first | refine wo_store1 (h := ?_) | refine wo_storeA (h := ?_)) | ((with_reducible apply gdo_build); first | refine wo_build (h := ?_)) | ((with_reducible apply o_len); infer_instance; exact rfl; exact rfl) | ((with_reducible first | apply g_run); exact rfl; exact gG_) | ((with_reducible first | apply c_seq | apply c_block | apply c_region | apply c_nil | apply c_ret | apply c_exit | apply c_skip)) | ((with_reducible apply c_cond_t); exact rfl; exact tT_) | ((with_reducible apply c_cond_f); exact rfl; exact fF_) | ((with_reducible first | apply e_then | apply e_then_ret | apply e_then_exit | apply e_in | apply e_in_ret | apply e_in_same)))
    apply r_body; apply res2 Try.results45; exact rV_; exact rV_; intro w' hw
    exact ⟨_, [], rfl, ⟨_, rfl, passOW.zero, by simp⟩, hw.sub (by exact hS_), by simp⟩
  subst hk0
  have e : Srt.runF caps s l = (Srt.playF caps s l, 0) := by unfold Srt.runF; rw [if_neg (fun g => g hc), if_neg hs, if_neg (by rw [hk]; simp)]
  rw [e]
  have hbig : l.length ≤ 2000 := by
    unfold Srt.fedF at hk
    split at hk
    · cases hk
    · omega
  have hok : ∀ f ∈ l, f.st < caps.length := by
    unfold Srt.fedF at hk
    rw [if_neg (by omega)] at hk
    split at hk
    · cases hk
    · rename_i hb
      have := (Srt.badF_false.1 (by simpa using hb)).1
      exact fun f hf => (this f hf).2.2
  refine f_enter3 Try.func45 rfl Try.ntmps45 rfl (Rep.start w) ?_
  repeat' (first | ((first | ((with_reducible apply o_call_pure (f := 58)); exact rfl) | ((with_reducible apply q_call_pure (f := 58)); exact rfl; kernel_rfl; exact rfl; exact sJ_)); exact eV_; exact (fun w hw => capok_yes hc w (h.keep hw (by exact aO_)))) | ((first | ((with_reducible apply o_call_pure (f := 59)); exact rfl) | ((with_reducible apply q_call_pure (f := 59)); exact rfl; kernel_rfl; exact rfl; exact sJ_)); exact eV_; exact (fun w hw => fed_ne hk w (hl.keep hw (by exact aO_)))) | ((first | ((with_reducible apply o_call_new (f := 60)); exact rfl) | ((with_reducible apply q_call_new (f := 60)); exact rfl; exact rfl; exact sJ_)); exact eV_; exact (fun w hw => play_calls w (h.keep hw (by exact aO_)) (hl.keep hw (by exact aO_)) hc.1.2 (by omega) hok (by omega)); rintro v N ⟨a1, c1, a2, c2, a3, c3, a4, c4, a5, c5, ss, N1, M1, N2, N3, N4, N5, rfl, g1, g2, g3, g4, g5, g6, rfl⟩ <;> (try simp only [List.cons_append, List.nil_append, List.append_assoc])) | ((with_reducible first | apply o_move | apply o_assign | apply o_not_d); exact rfl; exact rfl) | ((with_reducible first | apply o_lss | apply o_gtr | apply o_neq); exact rfl; exact rfl; exact rfl) | ((with_reducible apply o_not); exact rfl; exact rfl) | ((with_reducible apply o_pick_f); exact rfl; exact fF_; exact rfl; exact rfl) | ((with_reducible apply o_alloc); exact rfl; intro _) | ((with_reducible apply gdo_store); first | refine wo_store1 (h := ?_) | refine wo_storeA (h := ?_)) | ((with_reducible apply o_len); infer_instance; exact rfl; exact rfl) | ((with_reducible first | apply g_run); exact rfl; exact gG_) | ((with_reducible first | apply c_seq | apply c_block | apply c_region | apply c_nil | apply c_ret | apply c_exit | apply c_skip)) | ((with_reducible apply c_cond_f); exact rfl; exact fF_) | ((with_reducible first | apply e_then | apply e_then_ret | apply e_then_exit | apply e_in | apply e_in_ret | apply e_in_same)))
  have hp : passOW (Srt.playF caps s l) _ _ := ⟨a1, c1, a2, c2, a3, c3, a4, c4, a5, c5, ss, N1, M1, N2, N3, N4, N5, rfl, g1, g2, g3, g4, g5, g6, rfl⟩
  have o1 := g1.own
  have o2 := g2.own
  have o3 := g3.own
  have o4 := g4.own
  have o5 := g5.own
  have o6 := g6.own
  apply r_body; apply res2 Try.results45; exact rV_; exact rV_; intro w' hw
  exact ⟨_, _, rfl, ⟨_, rfl, hp, hp.own⟩, hw.sub (by exact hS_), hp.own⟩
end Go.Proofs.Ytkhaemjoekfhiaa
namespace Go.Sx.Plt
structure Sh where
  f : Int
  t : Int
  deriving DecidableEq
structure Job where
  id : Int
  rel : Int
  due : Int
  mins : Int
  deriving DecidableEq
structure Mach where
  id : Int
  sweeps : Int
  rate : Int
  caps : List Int
  shifts : List Sh
  deriving DecidableEq
structure Item where
  id : Int
  stop : Int
  batch : Int
  deriving DecidableEq
structure Row where
  stop : Int
  st : Int
  deriving DecidableEq
structure Pass where
  id : Int
  mach : Int
  rel : Int
  src : List (Int × Int)
  table : List Row
  unread : List Int
  deriving DecidableEq
structure Plant where
  ms : List Mach
  items : List Item
  passes : List Pass
  deriving DecidableEq
/-! ## shifts and jobs -/
def maxT : Int := 1051898399
def idOk (n : Int) : Prop := 1 ≤ n ∧ n ≤ 999999
instance (n : Int) : Decidable (idOk n) := by unfold idOk; infer_instance
def Job.ok (j : Job) : Prop := ((1 ≤ j.id ∧ j.id ≤ 999999) ∧ (1 ≤ j.mins ∧ j.mins ≤ 100000)) ∧ ((0 ≤ j.rel ∧ j.rel ≤ 1051898399) ∧ (0 ≤ j.due ∧ j.due ≤ 1051898399))
instance (j : Job) : Decidable j.ok := by unfold Job.ok; infer_instance
def wrongJ : List Int → Nat → List Job → Option Nat
  | _, _, [] => none
  | met, i, j :: r => if j.ok ∧ j.id ∉ met then wrongJ (met ++ [j.id]) (i + 1) r else some i
def Sh.ok (before : Int) (s : Sh) : Prop := before ≤ s.f ∧ s.f < s.t ∧ s.t ≤ 1051898399
instance (b : Int) (s : Sh) : Decidable (s.ok b) := by unfold Sh.ok; infer_instance
def wrongS : Int → Nat → List Sh → Option Nat
  | _, _, [] => none
  | b, i, s :: r => if s.ok b then wrongS s.t (i + 1) r else some i
def allowedF (jobs : List Job) (shifts : List Sh) : Nat × Int :=
  if 200 < jobs.length ∨ 200 < shifts.length then (0, 5) else
  match wrongJ [] 0 jobs with
  | some i => (i, 300)
  | none => match wrongS 0 0 shifts with
    | some i => (i, 301)
    | none => (0, 0)
/-! ## Valid -/
def rightM (m : Mach) : Prop := idOk m.id ∧ (1 ≤ m.rate ∧ m.rate ≤ 1000) ∧ (Srt.runF m.caps m.sweeps []).2 = 0 ∧ (allowedF [] m.shifts).2 = 0
instance (m : Mach) : Decidable (rightM m) := by unfold rightM; infer_instance
def machsBad : List Int → Nat → List Mach → Option Nat
  | _, _, [] => none
  | met, i, m :: r => if m.id ∉ met ∧ rightM m then machsBad (met ++ [m.id]) (i + 1) r else some i
def Item.ok (x : Item) : Prop := idOk x.id ∧ 1 ≤ x.batch ∧ x.batch ≤ 100
instance (x : Item) : Decidable x.ok := by unfold Item.ok; infer_instance
def itemsBad : List Int → Nat → List Item → Option Nat
  | _, _, [] => none
  | met, i, x :: r => if x.ok ∧ x.id ∉ met then itemsBad (met ++ [x.id]) (i + 1) r else some i
def srcOk (ps : List (Int × Int)) (s : Int × Int) : Prop := if s.1 = 0 then 1 ≤ s.2 ∧ s.2 ≤ 100 else match asF s.1 ps with
  | none => False
  | some n => 0 ≤ s.2 ∧ s.2 < n
instance (ps : List (Int × Int)) (s : Int × Int) : Decidable (srcOk ps s) := by
  unfold srcOk
  split
  · infer_instance
  · split <;> infer_instance
def srcsOk (ps : List (Int × Int)) : List (Int × Int) → List (Int × Int) → Prop
  | _, [] => True
  | tk, s :: r => (srcOk ps s ∧ s ∉ tk) ∧ srcsOk ps (tk ++ [s]) r
def decSrcs (ps : List (Int × Int)) : (tk l : List (Int × Int)) → Decidable (srcsOk ps tk l)
  | _, [] => .isTrue trivial
  | tk, s :: r => by
    unfold srcsOk
    have := decSrcs ps (tk ++ [s]) r
    infer_instance
instance (ps tk l : List (Int × Int)) : Decidable (srcsOk ps tk l) := decSrcs ps tk l
def rowsOk (n : Int) : List Int → List Row → Prop
  | _, [] => True
  | met, e :: r => (e.stop ∉ met ∧ 0 ≤ e.st ∧ e.st < n) ∧ rowsOk n (met ++ [e.stop]) r
def decRows (n : Int) : (met : List Int) → (l : List Row) → Decidable (rowsOk n met l)
  | _, [] => .isTrue trivial
  | met, e :: r => by
    unfold rowsOk
    have := decRows n (met ++ [e.stop]) r
    infer_instance
instance (n : Int) (met : List Int) (l : List Row) : Decidable (rowsOk n met l) := decRows n met l
def headOk (msl ps : List (Int × Int)) (y : Pass) : Prop := (asF y.id ps = none ∧ (asF y.mach msl).isSome = true) ∧ idOk y.id ∧ 0 ≤ y.rel ∧ y.rel ≤ 1051898399
instance (msl ps : List (Int × Int)) (y : Pass) : Decidable (headOk msl ps y) := by unfold headOk; infer_instance
def passOk (msl ps tk : List (Int × Int)) (y : Pass) : Prop := headOk msl ps y ∧ srcsOk ps tk y.src ∧ (y.table.length ≤ 1000 ∧ y.unread.length ≤ 2000) ∧ rowsOk ((asF y.mach msl).getD 0) [] y.table
instance (msl ps tk : List (Int × Int)) (y : Pass) : Decidable (passOk msl ps tk y) := by unfold passOk; infer_instance
def passesBad (msl : List (Int × Int)) : List (Int × Int) → List (Int × Int) → Nat → List Pass → Option Nat
  | _, _, _, [] => none
  | ps, tk, i, y :: r => if passOk msl ps tk y then passesBad msl (ps ++ [(y.id, (asF y.mach msl).getD 0)]) (tk ++ y.src) (i + 1) r else some i
def mslF (ms : List Mach) : List (Int × Int) := ms.map fun m => (m.id, (m.caps.length : Int))
def validF (p : Plant) : Nat × Int :=
  if 20 < p.ms.length ∨ 2000 < p.items.length ∨ 60 < p.passes.length then (0, 5) else
  match machsBad [] 0 p.ms with
  | some i => (i, 310)
  | none => match itemsBad [] 0 p.items with
    | some i => (i, 311)
    | none => match passesBad (mslF p.ms) [] [] 0 p.passes with
      | some i => (i, 312)
      | none => (0, 0)
/-! ## runs -/
structure Run where
  pass : Int
  start : Int
  fin : Int
  items : List Int
  slices : List (Int × Int)
  res : Srt.M
/-- The slices of one job: released at rel, with some minutes left. -/
def slicesF (rel : Int) : Int → List Sh → List (Int × Int)
  | _, [] => []
  | left, s :: r => if left = 0 ∨ s.t ≤ max s.f rel then slicesF rel left r else (max s.f rel, min s.t (max s.f rel + left)) :: slicesF rel (left - (min s.t (max s.f rel + left) - max s.f rel)) r
def spanF : List (Int × Int) → Int
  | [] => 0
  | s :: r => (s.2 - s.1) + spanF r
/-- A hall: the rows of items of the sources, the ends of the passes, and of the last one of each machine. -/
structure Hall where
  rows : List ((Int × Int) × List Int)
  ends : List (Int × Int)
  free : List (Int × Int)
def Hall.row (h : Hall) (s : Int × Int) : List Int := (asF s h.rows).getD []
def missed (y : Pass) : Run := ⟨y.id, -1, -1, [], [], Srt.M.new 0 0⟩
/-- When a pass is ready, and what it takes; nothing if a source was not run. -/
def takeSrc (h : Hall) : Int → List Int → List (Int × Int) → Option (Int × List Int)
  | ready, acc, [] => some (ready, acc)
  | ready, acc, s :: r => if s.1 ≠ 0 then
      match asF s.1 h.ends with
      | none => none
      | some e => takeSrc h (max ready e) (acc ++ h.row s) r
    else takeSrc h ready (acc ++ h.row s) r
def tableF (l : List Row) : List (Int × Int) := l.foldl (fun m e => putF e.stop e.st m) []
def feedOf (stops : List (Int × Int)) (y : Pass) (x : Int) : Srt.Fd :=
  match asF ((asF x stops).getD 0) (tableF y.table) with
  | some k => ⟨x, if x ∈ y.unread then -1 else k⟩
  | none => ⟨x, -1⟩
def needOf (n : Nat) (rate : Int) : Int := ((n : Int) + rate - 1) / rate
def putRows {V : Type} (id : Int) : Nat → List V → List ((Int × Int) × V) → List ((Int × Int) × V)
  | _, [], m => m
  | k, l :: r, m => putRows id (k + 1) r (putF (id, (k : Int)) l m)
def runF (h : Hall) (m : Mach) (stops : List (Int × Int)) (y : Pass) : Run × Hall :=
  match takeSrc h (max y.rel ((asF m.id h.free).getD 0)) [] y.src with
  | none => (missed y, h)
  | some (ready, items) =>
    let sl := if items = [] then [] else slicesF ready (needOf items.length m.rate) m.shifts
    if items ≠ [] ∧ (sl = [] ∨ spanF sl < needOf items.length m.rate) then (missed y, h) else
    let start := if items = [] then ready else (sl.headD (0, 0)).1
    let fin := if items = [] then ready else (sl.getLastD (0, 0)).2
    let res := Srt.runF m.caps m.sweeps (items.map (feedOf stops y))
    if res.2 ≠ 0 then (missed y, h) else
    (⟨y.id, start, fin, items, sl, res.1⟩, ⟨putRows y.id 0 res.1.stackers h.rows, putF y.id fin h.ends, putF m.id fin h.free⟩)
def batchRows : List ((Int × Int) × List Int) → List Item → List ((Int × Int) × List Int)
  | m, [] => m
  | m, x :: r => batchRows (putF (0, x.batch) ((asF (0, x.batch) m).getD [] ++ [x.id]) m) r
def stopsF (l : List Item) : List (Int × Int) := l.foldl (fun m x => putF x.id x.stop m) []
def machF (ms : List Mach) (id : Int) : Mach := (ms.find? fun m => m.id = id).getD ⟨0, 0, 0, [], []⟩
def runsF (ms : List Mach) (stops : List (Int × Int)) : Hall → List Pass → List Run
  | _, [] => []
  | h, y :: r => (runF h (machF ms y.mach) stops y).1 :: runsF ms stops (runF h (machF ms y.mach) stops y).2 r
def hall0 (p : Plant) : Hall := ⟨batchRows [] p.items, [], []⟩
def playF (p : Plant) : List Run := runsF p.ms (stopsF p.items) (hall0 p) p.passes
end Go.Sx.Plt
namespace Go.Proofs.Ytkhaemjoekfhiaa
open Go Go.Sx Go.RowKit
attribute [local irreducible] WL WC WQ WR WB WF QB St Exit.then Exit.inBlock Exit.noGoto bodyPost roundPost beginK YR RG BM Calls B AgainD MeetD
/-! ## jobs and shifts -/
def encSh (s : Plt.Sh) : List Value := [.int .i64 s.f, .int .i64 s.t]
theorem encSh_len : ∀ x, (encSh x).length = 2 := fun _ => rfl
def encJob (j : Plt.Job) : List Value := [.int .i64 j.id, .int .i64 j.rel, .int .i64 j.due, .int .i64 j.mins]
theorem encJob_len : ∀ x, (encJob x).length = 4 := fun _ => rfl
def foundV : Option Nat → Value
  | none => .tuple #[.int .i64 0, .bool false]
  | some i => .tuple #[.int .i64 i, .bool true]
theorem wrongJob_calls {v : Value} {l : List Plt.Job} (w : World) (h : SV w 4 encJob v l) : Calls Try.prog 63 #[v] w fun e w' => e = .returned (foundV (Plt.wrongJ [] 0 l)) ∧ Below w.heap.size w w' := by
  obtain ⟨a0, ca, rfl, hca, hop⟩ := h.open
  refine f_enter1 Try.func63 rfl Try.ntmps63 rfl (Rep.start w) ?_
  repeat' (first | ((with_reducible first | apply o_move | apply o_assign | apply o_faddr0); exact rfl; exact rfl) | ((with_reducible apply o_len); infer_instance; exact rfl; exact rfl) | ((with_reducible apply o_makeMap); infer_instance; exact rfl; exact rfl; intro _) | ((with_reducible first | apply c_seq | apply c_block | apply c_region | apply c_nil | apply c_ret | apply c_exit | apply c_skip)) | ((with_reducible first | apply e_then | apply e_then_ret | apply e_then_exit | apply e_in | apply e_in_ret | apply e_in_same)))
  rename_i bm
  apply c_loop (σ := Nat) (Fs := fun i => [(12, .int .i64 i), (11, .int .i64 l.length), (10, .slice a0 l.length ca), (4, .map (some bm))])
    (Ls := fun i => [⟨bm, MO (setM .i64 ((l.take i).map Plt.Job.id)), true⟩]) (I := fun i => i ≤ l.length ∧ ((l.take i).map Plt.Job.id).Nodup ∧ Plt.wrongJ [] 0 l = Plt.wrongJ ((l.take i).map Plt.Job.id) i (l.drop i)) (μ := fun i => l.length - i) (s0 := 0)
  · exact ⟨Nat.zero_le _, by simp, by simp⟩
  · exact fS_
  · exact hS_
  rintro i ⟨hi, hnd, hw0⟩
  by_cases hlt : i < l.length
  · obtain ⟨⟨id, re, du, mi⟩, hx⟩ : ∃ s, l[i]? = some s := ⟨_, List.getElem?_eq_getElem hlt⟩
    obtain ⟨b, off, cc, e, fz, rfl, hk, hp⟩ := hop (by omega)
    have h1 : ∀ j u, ([.int .i64 id, .int .i64 re, .int .i64 du, .int .i64 mi] : List Value)[j]? = some u → cc[off + i * 4 + j]? = some u := hp.get hx
    rw [drop_at hx, Plt.wrongJ] at hw0
    have e1 : (l.take (i + 1)).map Plt.Job.id = (l.take i).map Plt.Job.id ++ [id] := by rw [take_snoc hx]; simp
    unfold Plt.Job.ok at hw0
    dsimp only at hw0
    generalize (l.take i).map Plt.Job.id = met at hnd hw0 e1 ⊢
    by_cases hm : id ∈ met
    · rw [if_neg (fun h => h.2 hm)] at hw0
      rw [hw0]
      as_aux_lemma =>
        repeat' (first | ((with_reducible first | apply o_move | apply o_assign | apply o_faddr0); exact rfl; exact rfl) | ((with_reducible apply gdo_load); first | refine wo_load (h := ?_) | refine wo_loadAll (h := ?_) | refine wo_loadC (h := ?_) | refine wo_ldV (h := ?_) | refine wo_ldF (h := ?_)) | ((with_reducible first | apply o_lss | apply o_gtr); exact rfl; exact rfl; exact rfl) | ((with_reducible apply o_pick_t); exact rfl; exact tT_; exact rfl; exact rfl) | ((with_reducible apply o_pick_f); exact rfl; exact fF_; exact rfl; exact rfl) | ((with_reducible first | apply o_alloc | apply o_makeMap0); exact rfl; intro _) | ((with_reducible apply gdo_store); first | refine wo_store1 (h := ?_) | refine wo_storeA (h := ?_)) | ((with_reducible apply gdo_lookup); refine wo_lookS (h := ?_)) | ((with_reducible apply o_idx); infer_instance; infer_instance; exact rfl; exact rfl; (first | exact rfl | omega); exact rfl; (first | assumption | omega | decide)) | ((with_reducible first | apply g_run); exact rfl; exact gG_) | ((with_reducible apply g_skip); exact rfl; exact gG_; exact rfl) | ((with_reducible first | apply c_seq | apply c_block | apply c_region | apply c_nil | apply c_ret | apply c_exit | apply c_skip)) | ((with_reducible apply c_cond_t); exact rfl; exact tT_) | ((with_reducible first | apply e_then | apply e_then_ret | apply e_then_exit | apply e_in | apply e_in_ret | apply e_in_same)) | ((with_reducible apply g_split_d); exact rfl; intro hcond; rotate_left; intro hcond; rotate_left))
        all_goals first
          | (exfalso; omega)
          | (apply r_body; apply res2 Try.results63; exact rV_; exact rV_; intro w' hw; exact ⟨rfl, hw.below (by simp)⟩)
    by_cases hok : ((1 ≤ id ∧ id ≤ 999999) ∧ 1 ≤ mi ∧ mi ≤ 100000) ∧ (0 ≤ re ∧ re ≤ 1051898399) ∧ 0 ≤ du ∧ du ≤ 1051898399
    · rw [if_pos ⟨hok, hm⟩] at hw0
      as_aux_lemma =>
        repeat' (first | ((with_reducible first | apply o_move | apply o_assign | apply o_faddr0); exact rfl; exact rfl) | ((with_reducible apply gdo_load); first | refine wo_load (h := ?_) | refine wo_loadAll (h := ?_) | refine wo_loadC (h := ?_) | refine wo_ldV (h := ?_) | refine wo_ldF (h := ?_)) | ((with_reducible first | apply o_lss | apply o_gtr); exact rfl; exact rfl; exact rfl) | ((with_reducible apply o_add); exact rfl; exact rfl; exact rfl; (constructor <;> omega)) | ((with_reducible apply o_pick_f); exact rfl; exact fF_; exact rfl; exact rfl) | ((with_reducible first | apply o_alloc | apply o_makeMap0); exact rfl; intro _) | ((with_reducible apply gdo_store); first | refine wo_store1 (h := ?_) | refine wo_storeA (h := ?_)) | ((with_reducible apply gdo_lookup); refine wo_lookS (h := ?_)) | ((with_reducible apply gdo_mapUpdate); refine wo_mapNewS (h := ?_)) | ((with_reducible apply o_idx); infer_instance; infer_instance; exact rfl; exact rfl; (first | exact rfl | omega); exact rfl; (first | assumption | omega | decide)) | ((with_reducible first | apply g_run); exact rfl; exact gG_) | ((with_reducible first | apply c_seq | apply c_block | apply c_region | apply c_nil | apply c_ret | apply c_exit | apply c_skip)) | ((with_reducible apply c_cond_t); exact rfl; exact tT_) | ((with_reducible apply c_cond_f); exact rfl; exact fF_) | ((with_reducible first | apply e_then | apply e_then_ret | apply e_then_exit | apply e_in | apply e_in_ret | apply e_in_same)))
        all_goals first
          | (exfalso; omega)
          | skip
        refine l_again (i + 1) ⟨by omega, ?_, ?_⟩ (by omega) ?_ ?_
        · rw [e1, List.nodup_append]
          refine ⟨hnd, by simp, fun a ha b hb e => ?_⟩
          simp at hb; subst hb; subst e; exact hm ha
        · rw [e1]; exact hw0
        · exact fS_
        · simp only [e1]; exact hS_
    · rw [if_neg (fun h => hok h.1)] at hw0
      rw [hw0]
      as_aux_lemma =>
        repeat' (first | ((with_reducible first | apply o_move | apply o_assign | apply o_faddr0); exact rfl; exact rfl) | ((with_reducible apply gdo_load); first | refine wo_load (h := ?_) | refine wo_loadAll (h := ?_) | refine wo_loadC (h := ?_) | refine wo_ldV (h := ?_) | refine wo_ldF (h := ?_)) | ((with_reducible first | apply o_lss | apply o_gtr); exact rfl; exact rfl; exact rfl) | ((with_reducible apply o_pick_t); exact rfl; exact tT_; exact rfl; exact rfl) | ((with_reducible apply o_pick_f); exact rfl; exact fF_; exact rfl; exact rfl) | ((with_reducible first | apply o_alloc | apply o_makeMap0); exact rfl; intro _) | ((with_reducible apply gdo_store); first | refine wo_store1 (h := ?_) | refine wo_storeA (h := ?_)) | ((with_reducible apply gdo_lookup); refine wo_lookS (h := ?_)) | ((with_reducible apply o_idx); infer_instance; infer_instance; exact rfl; exact rfl; (first | exact rfl | omega); exact rfl; (first | assumption | omega | decide)) | ((with_reducible first | apply g_run); exact rfl; exact gG_) | ((with_reducible apply g_skip); exact rfl; exact gG_; exact rfl) | ((with_reducible first | apply c_seq | apply c_block | apply c_region | apply c_nil | apply c_ret | apply c_exit | apply c_skip)) | ((with_reducible apply c_cond_t); exact rfl; exact tT_) | ((with_reducible first | apply e_then | apply e_then_ret | apply e_then_exit | apply e_in | apply e_in_ret | apply e_in_same)) | ((with_reducible apply c_cond_d); exact rfl; intro hcond; rotate_left; intro hcond; rotate_left) | ((with_reducible apply g_split_d); exact rfl; intro hcond; rotate_left; intro hcond; rotate_left))
        all_goals first
          | (exfalso; omega)
          | (apply r_body; apply res2 Try.results63; exact rV_; exact rV_; intro w' hw; exact ⟨rfl, hw.below (by simp)⟩)
  rw [List.drop_of_length_le (by omega), Plt.wrongJ] at hw0
  rw [hw0]
  repeat' (first | ((with_reducible first | apply o_move | apply o_assign | apply o_faddr0); exact rfl; exact rfl) | ((with_reducible first | apply o_lss | apply o_gtr); exact rfl; exact rfl; exact rfl) | ((with_reducible first | apply c_seq | apply c_block | apply c_region | apply c_nil | apply c_ret | apply c_exit | apply c_skip)) | ((with_reducible apply c_cond_f); exact rfl; exact fF_) | ((with_reducible first | apply e_then | apply e_then_ret | apply e_then_exit | apply e_in | apply e_in_ret | apply e_in_same)))
  apply r_body; apply res2 Try.results63; exact rV_; exact rV_; intro w' hw
  exact ⟨rfl, hw.below (by simp)⟩
def lastT : List Plt.Sh → Int
  | [] => 0
  | s :: r => (r.getLastD s).t
theorem lastT_snoc (l : List Plt.Sh) (s : Plt.Sh) : lastT (l ++ [s]) = s.t := by
  cases l with
  | nil => rfl
  | cons a r => simp [lastT]
theorem wrongShift_calls {v : Value} {l : List Plt.Sh} (w : World) (h : SV w 2 encSh v l) : Calls Try.prog 64 #[v] w fun e w' => e = .returned (foundV (Plt.wrongS 0 0 l)) ∧ Below w.heap.size w w' := by
  obtain ⟨a0, ca, rfl, hca, hop⟩ := h.open
  refine f_enter1 Try.func64 rfl Try.ntmps64 rfl (Rep.start w) ?_
  repeat' (first | ((with_reducible first | apply o_move | apply o_assign | apply o_faddr0); exact rfl; exact rfl) | ((with_reducible apply o_len); infer_instance; exact rfl; exact rfl) | ((with_reducible first | apply c_seq | apply c_block | apply c_region | apply c_nil | apply c_ret | apply c_exit | apply c_skip)) | ((with_reducible first | apply e_then | apply e_then_ret | apply e_then_exit | apply e_in | apply e_in_ret | apply e_in_same)))
  apply c_loop (σ := Nat) (Fs := fun i => [(9, .int .i64 i), (8, .int .i64 l.length), (7, .slice a0 l.length ca), (4, .int .i64 (lastT (l.take i)))])
    (Ls := fun i => []) (I := fun i => i ≤ l.length ∧ Plt.wrongS 0 0 l = Plt.wrongS (lastT (l.take i)) i (l.drop i)) (μ := fun i => l.length - i) (s0 := 0)
  · exact ⟨Nat.zero_le _, by simp [lastT]⟩
  · exact fS_
  · exact hS_
  rintro i ⟨hi, hw0⟩
  by_cases hlt : i < l.length
  · obtain ⟨⟨f, t⟩, hx⟩ : ∃ s, l[i]? = some s := ⟨_, List.getElem?_eq_getElem hlt⟩
    obtain ⟨b, off, cc, e, fz, rfl, hk, hp⟩ := hop (by omega)
    have h1 : ∀ j u, ([.int .i64 f, .int .i64 t] : List Value)[j]? = some u → cc[off + i * 2 + j]? = some u := hp.get hx
    have e1 : lastT (l.take (i + 1)) = t := by rw [take_snoc hx, lastT_snoc]
    rw [drop_at hx, Plt.wrongS] at hw0
    generalize lastT (l.take i) = bf at hw0 ⊢
    by_cases hok : Plt.Sh.ok bf ⟨f, t⟩
    · rw [if_pos hok] at hw0
      unfold Plt.Sh.ok at hok
      dsimp only at hok hw0
      as_aux_lemma =>
        repeat' (first | ((with_reducible first | apply o_move | apply o_assign | apply o_faddr0); exact rfl; exact rfl) | ((with_reducible apply gdo_load); first | refine wo_load (h := ?_) | refine wo_loadAll (h := ?_) | refine wo_loadC (h := ?_) | refine wo_ldV (h := ?_) | refine wo_ldF (h := ?_)) | ((with_reducible first | apply o_lss | apply o_leq | apply o_gtr); exact rfl; exact rfl; exact rfl) | ((with_reducible apply o_add); exact rfl; exact rfl; exact rfl; (constructor <;> omega)) | ((with_reducible apply o_pick_f); exact rfl; exact fF_; exact rfl; exact rfl) | ((with_reducible apply o_alloc); exact rfl; intro _) | ((with_reducible apply gdo_store); first | refine wo_store1 (h := ?_) | refine wo_storeA (h := ?_)) | ((with_reducible apply o_idx); infer_instance; infer_instance; exact rfl; exact rfl; (first | exact rfl | omega); exact rfl; (first | assumption | omega | decide)) | ((with_reducible first | apply g_run); exact rfl; exact gG_) | ((with_reducible first | apply c_seq | apply c_block | apply c_region | apply c_nil | apply c_ret | apply c_exit | apply c_skip)) | ((with_reducible apply c_cond_t); exact rfl; exact tT_) | ((with_reducible apply c_cond_f); exact rfl; exact fF_) | ((with_reducible first | apply e_then | apply e_then_ret | apply e_then_exit | apply e_in | apply e_in_ret | apply e_in_same)))
        all_goals first
          | (exfalso; omega)
          | skip
        refine l_again (i + 1) ⟨by omega, by rw [e1]; exact hw0⟩ (by omega) ?_ ?_
        · (try dsimp only); rw [e1]; exact fS_
        · exact hS_
    · rw [if_neg hok] at hw0
      rw [hw0]
      unfold Plt.Sh.ok at hok
      dsimp only at hok
      as_aux_lemma =>
        repeat' (first | ((with_reducible first | apply o_move | apply o_assign | apply o_faddr0); exact rfl; exact rfl) | ((with_reducible apply gdo_load); first | refine wo_load (h := ?_) | refine wo_loadAll (h := ?_) | refine wo_loadC (h := ?_) | refine wo_ldV (h := ?_) | refine wo_ldF (h := ?_)) | ((with_reducible first | apply o_lss | apply o_leq | apply o_gtr); exact rfl; exact rfl; exact rfl) | ((with_reducible apply o_pick_t); exact rfl; exact tT_; exact rfl; exact rfl) | ((with_reducible apply o_pick_f); exact rfl; exact fF_; exact rfl; exact rfl) | ((with_reducible apply o_alloc); exact rfl; intro _) | ((with_reducible apply gdo_store); first | refine wo_store1 (h := ?_) | refine wo_storeA (h := ?_)) | ((with_reducible apply o_idx); infer_instance; infer_instance; exact rfl; exact rfl; (first | exact rfl | omega); exact rfl; (first | assumption | omega | decide)) | ((with_reducible first | apply g_run); exact rfl; exact gG_) | ((with_reducible apply g_skip); exact rfl; exact gG_; exact rfl) | ((with_reducible first | apply c_seq | apply c_block | apply c_region | apply c_nil | apply c_ret | apply c_exit | apply c_skip)) | ((with_reducible apply c_cond_t); exact rfl; exact tT_) | ((with_reducible first | apply e_then | apply e_then_ret | apply e_then_exit | apply e_in | apply e_in_ret | apply e_in_same)) | ((with_reducible apply g_split_d); exact rfl; intro hcond; rotate_left; intro hcond; rotate_left))
        all_goals first
          | (exfalso; omega)
          | (apply r_body; apply res2 Try.results64; exact rV_; exact rV_; intro w' hw; exact ⟨rfl, hw.below (by simp)⟩)
  rw [List.drop_of_length_le (by omega), Plt.wrongS] at hw0
  rw [hw0]
  repeat' (first | ((with_reducible first | apply o_move | apply o_assign | apply o_faddr0); exact rfl; exact rfl) | ((with_reducible first | apply o_lss | apply o_leq | apply o_gtr); exact rfl; exact rfl; exact rfl) | ((with_reducible first | apply c_seq | apply c_block | apply c_region | apply c_nil | apply c_ret | apply c_exit | apply c_skip)) | ((with_reducible apply c_cond_f); exact rfl; exact fF_) | ((with_reducible first | apply e_then | apply e_then_ret | apply e_then_exit | apply e_in | apply e_in_ret | apply e_in_same)))
  apply r_body; apply res2 Try.results64; exact rV_; exact rV_; intro w' hw
  exact ⟨rfl, hw.below (by simp)⟩
theorem wrongJ_is {jv : Value} {jobs : List Plt.Job} {r : Option Nat} (h : Plt.wrongJ [] 0 jobs = r) (w : World) (hj : SV w 4 encJob jv jobs) : Calls Try.prog 63 #[jv] w fun e w' => e = .returned (foundV r) ∧ Below w.heap.size w w' := by
  subst h; exact wrongJob_calls w hj
theorem wrongS_is {sv : Value} {l : List Plt.Sh} {r : Option Nat} (h : Plt.wrongS 0 0 l = r) (w : World) (hj : SV w 2 encSh sv l) : Calls Try.prog 64 #[sv] w fun e w' => e = .returned (foundV r) ∧ Below w.heap.size w w' := by
  subst h; exact wrongShift_calls w hj
theorem allowed_calls {jv sv : Value} {jobs : List Plt.Job} {shifts : List Plt.Sh} (w : World) (hj : SV w 4 encJob jv jobs) (hs : SV w 2 encSh sv shifts) :
    Calls Try.prog 54 #[jv, sv] w fun e w' => e = .returned (.tuple #[.int .i64 (Plt.allowedF jobs shifts).1, .int .i64 (Plt.allowedF jobs shifts).2]) ∧ Below w.heap.size w w' := by
  obtain ⟨a0, ca, rfl, hca, -⟩ := hj.open
  obtain ⟨a1, cb, rfl, hcb, -⟩ := hs.open
  by_cases hbig : 200 < jobs.length ∨ 200 < shifts.length
  · have e : Plt.allowedF jobs shifts = (0, 5) := by unfold Plt.allowedF; rw [if_pos hbig]
    rw [e]
    refine f_enter2 Try.func54 rfl Try.ntmps54 rfl (Rep.start w) ?_
    repeat' (first | ((with_reducible first | apply o_move | apply o_assign); exact rfl; exact rfl) | ((with_reducible first | apply o_gtr | apply o_extract); exact rfl; exact rfl; exact rfl) | ((with_reducible apply o_pick_t); exact rfl; exact tT_; exact rfl; exact rfl) | ((with_reducible apply o_pick_f); exact rfl; exact fF_; exact rfl; exact rfl) | ((with_reducible apply o_len); infer_instance; exact rfl; exact rfl) | ((with_reducible first | apply g_run); exact rfl; exact gG_) | ((with_reducible apply g_skip); exact rfl; exact gG_; exact rfl) | ((with_reducible first | apply c_seq | apply c_block | apply c_region | apply c_nil | apply c_ret | apply c_exit | apply c_skip)) | ((with_reducible apply c_cond_t); exact rfl; exact tT_) | ((with_reducible first | apply e_then | apply e_then_ret | apply e_then_exit | apply e_in | apply e_in_ret | apply e_in_same)) | ((with_reducible apply g_split_d); exact rfl; intro hcond; rotate_left; intro hcond; rotate_left))
    all_goals first
      | (exfalso; omega)
      | (apply r_body; apply res2 Try.results54; exact rV_; exact rV_; intro w' hw; exact ⟨rfl, hw.below (by simp)⟩)
  cases h1 : Plt.wrongJ [] 0 jobs with
  | some i =>
    have e : Plt.allowedF jobs shifts = (i, 300) := by unfold Plt.allowedF; rw [if_neg hbig, h1]
    rw [e]
    refine f_enter2 Try.func54 rfl Try.ntmps54 rfl (Rep.start w) ?_
    repeat' (first | ((with_reducible apply c_cond_f); exact rfl; exact decide_eq_false (by omega)) | ((with_reducible apply o_pick_f); exact rfl; exact decide_eq_false (by omega); exact rfl; exact rfl) | ((with_reducible apply g_run); exact rfl; exact decide_eq_false (by omega)) | ((first | ((with_reducible apply o_call_pure (f := 63)); exact rfl) | ((with_reducible apply q_call_pure (f := 63)); exact rfl; kernel_rfl; exact rfl; exact sJ_)); exact eV_; exact (fun w hw => wrongJ_is h1 w (hj.keep hw (by exact aO_)))) | ((with_reducible first | apply o_move | apply o_assign); exact rfl; exact rfl) | ((with_reducible first | apply o_gtr | apply o_extract); exact rfl; exact rfl; exact rfl) | ((with_reducible apply o_len); infer_instance; exact rfl; exact rfl) | ((with_reducible first | apply c_seq | apply c_block | apply c_region | apply c_nil | apply c_ret | apply c_exit | apply c_skip)) | ((with_reducible apply c_cond_t); exact rfl; exact tT_) | ((with_reducible first | apply e_then | apply e_then_ret | apply e_then_exit | apply e_in | apply e_in_ret | apply e_in_same)))
    apply r_body; apply res2 Try.results54; exact rV_; exact rV_; intro w' hw
    exact ⟨rfl, hw.below (by simp)⟩
  | none =>
  cases h2 : Plt.wrongS 0 0 shifts with
  | some i =>
    have e : Plt.allowedF jobs shifts = (i, 301) := by unfold Plt.allowedF; rw [if_neg hbig, h1]; dsimp only; rw [h2]
    rw [e]
    refine f_enter2 Try.func54 rfl Try.ntmps54 rfl (Rep.start w) ?_
    repeat' (first | ((with_reducible apply c_cond_f); exact rfl; exact decide_eq_false (by omega)) | ((with_reducible apply o_pick_f); exact rfl; exact decide_eq_false (by omega); exact rfl; exact rfl) | ((with_reducible apply g_run); exact rfl; exact decide_eq_false (by omega)) | ((first | ((with_reducible apply o_call_pure (f := 63)); exact rfl) | ((with_reducible apply q_call_pure (f := 63)); exact rfl; kernel_rfl; exact rfl; exact sJ_)); exact eV_; exact (fun w hw => wrongJ_is h1 w (hj.keep hw (by exact aO_)))) | ((first | ((with_reducible apply o_call_pure (f := 64)); exact rfl) | ((with_reducible apply q_call_pure (f := 64)); exact rfl; kernel_rfl; exact rfl; exact sJ_)); exact eV_; exact (fun w hw => wrongS_is h2 w (hs.keep hw (by exact aO_)))) | ((with_reducible first | apply o_move | apply o_assign); exact rfl; exact rfl) | ((with_reducible first | apply o_gtr | apply o_extract); exact rfl; exact rfl; exact rfl) | ((with_reducible apply o_len); infer_instance; exact rfl; exact rfl) | ((with_reducible first | apply c_seq | apply c_block | apply c_region | apply c_nil | apply c_ret | apply c_exit | apply c_skip)) | ((with_reducible apply c_cond_t); exact rfl; exact tT_) | ((with_reducible apply c_cond_f); exact rfl; exact fF_) | ((with_reducible first | apply e_then | apply e_then_ret | apply e_then_exit | apply e_in | apply e_in_ret | apply e_in_same)))
    apply r_body; apply res2 Try.results54; exact rV_; exact rV_; intro w' hw
    exact ⟨rfl, hw.below (by simp)⟩
  | none =>
  have e : Plt.allowedF jobs shifts = (0, 0) := by unfold Plt.allowedF; rw [if_neg hbig, h1]; dsimp only; rw [h2]
  rw [e]
  refine f_enter2 Try.func54 rfl Try.ntmps54 rfl (Rep.start w) ?_
  repeat' (first | ((with_reducible apply c_cond_f); exact rfl; exact decide_eq_false (by omega)) | ((with_reducible apply o_pick_f); exact rfl; exact decide_eq_false (by omega); exact rfl; exact rfl) | ((with_reducible apply g_run); exact rfl; exact decide_eq_false (by omega)) | ((first | ((with_reducible apply o_call_pure (f := 63)); exact rfl) | ((with_reducible apply q_call_pure (f := 63)); exact rfl; kernel_rfl; exact rfl; exact sJ_)); exact eV_; exact (fun w hw => wrongJ_is h1 w (hj.keep hw (by exact aO_)))) | ((first | ((with_reducible apply o_call_pure (f := 64)); exact rfl) | ((with_reducible apply q_call_pure (f := 64)); exact rfl; kernel_rfl; exact rfl; exact sJ_)); exact eV_; exact (fun w hw => wrongS_is h2 w (hs.keep hw (by exact aO_)))) | ((with_reducible first | apply o_move | apply o_assign); exact rfl; exact rfl) | ((with_reducible first | apply o_gtr | apply o_extract); exact rfl; exact rfl; exact rfl) | ((with_reducible apply o_len); infer_instance; exact rfl; exact rfl) | ((with_reducible first | apply c_seq | apply c_block | apply c_region | apply c_nil | apply c_ret | apply c_exit | apply c_skip)) | ((with_reducible apply c_cond_f); exact rfl; exact fF_) | ((with_reducible first | apply e_then | apply e_then_ret | apply e_then_exit | apply e_in | apply e_in_ret | apply e_in_same)))
  apply r_body; apply res2 Try.results54; exact rV_; exact rV_; intro w' hw
  exact ⟨rfl, hw.below (by simp)⟩
theorem allowed_is {jv sv : Value} {jobs : List Plt.Job} {shifts : List Plt.Sh} {i : Nat} {k : Int} (he : Plt.allowedF jobs shifts = (i, k)) (w : World) (hj : SV w 4 encJob jv jobs) (hs : SV w 2 encSh sv shifts) :
    Calls Try.prog 54 #[jv, sv] w fun e w' => e = .returned (.tuple #[.int .i64 i, .int .i64 k]) ∧ Below w.heap.size w w' := by
  have := allowed_calls w hj hs; rw [he] at this; exact this
/-- Check, without jobs and slices. -/
theorem scheck_calls {sv : Value} {shifts : List Plt.Sh} {i : Nat} {k : Int} (he : Plt.allowedF [] shifts = (i, k)) (w : World) (hs : SV w 2 encSh sv shifts) :
    Calls Try.prog 47 #[.slice none 0 0, sv, .slice none 0 0] w fun e w' => e = .returned (.tuple #[.int .i64 i, .int .i64 k]) ∧ Below w.heap.size w w' := by
  have hi0 : k = 0 → i = 0 := fun hk => by
    subst hk
    unfold Plt.allowedF at he
    split at he
    · cases he
    · split at he
      · cases he
      · split at he
        · cases he
        · cases he; rfl
  obtain ⟨a1, cb, rfl, hcb, -⟩ := hs.open
  by_cases hk : k = 0
  case neg =>
    refine f_enter3 Try.func47 rfl Try.ntmps47 rfl (Rep.start w) ?_
    repeat' (first | ((with_reducible apply c_cond_t); exact rfl; exact decide_eq_true (by omega)) | ((with_reducible apply c_cond_f); exact rfl; exact decide_eq_false (by omega)) | ((first | ((with_reducible apply o_call_pure (f := 54)); exact rfl) | ((with_reducible apply q_call_pure (f := 54)); exact rfl; kernel_rfl; exact rfl; exact sJ_)); exact eV_; exact (fun w hw => allowed_is he w (SV.nil : SV w 4 encJob (.slice none 0 0) []) (hs.keep hw (by exact aO_)))) | ((with_reducible first | apply o_move | apply o_assign | apply o_faddr0 | apply o_not_d); exact rfl; exact rfl) | ((with_reducible first | apply o_lss | apply o_gtr | apply o_geq | apply o_neq | apply o_extract); exact rfl; exact rfl; exact rfl) | ((with_reducible apply o_len); infer_instance; exact rfl; exact rfl) | ((with_reducible first | apply c_seq | apply c_block | apply c_region | apply c_nil | apply c_ret | apply c_exit | apply c_skip)) | ((with_reducible first | apply e_then | apply e_then_ret | apply e_then_exit | apply e_in | apply e_in_ret | apply e_in_same)))
    apply r_body; apply res2 Try.results47; exact rV_; exact rV_; intro w' hw
    exact ⟨rfl, hw.below (by simp)⟩
  obtain rfl := hi0 hk
  subst hk
  refine f_enter3 Try.func47 rfl Try.ntmps47 rfl (Rep.start w) ?_
  repeat' (first | ((with_reducible apply c_cond_f); exact rfl; exact decide_eq_false (by omega)) | ((first | ((with_reducible apply o_call_pure (f := 54)); exact rfl) | ((with_reducible apply q_call_pure (f := 54)); exact rfl; kernel_rfl; exact rfl; exact sJ_)); exact eV_; exact (fun w hw => allowed_is he w (SV.nil : SV w 4 encJob (.slice none 0 0) []) (hs.keep hw (by exact aO_)))) | ((with_reducible first | apply o_move | apply o_assign | apply o_faddr0 | apply o_not_d); exact rfl; exact rfl) | ((with_reducible first | apply o_lss | apply o_gtr | apply o_geq | apply o_neq | apply o_extract); exact rfl; exact rfl; exact rfl) | ((with_reducible apply o_len); infer_instance; exact rfl; exact rfl) | ((with_reducible apply o_makeMap); infer_instance; exact rfl; exact rfl; intro _) | ((with_reducible first | apply c_seq | apply c_block | apply c_region | apply c_nil | apply c_ret | apply c_exit | apply c_skip)) | ((with_reducible first | apply e_then | apply e_then_ret | apply e_then_exit | apply e_in | apply e_in_ret | apply e_in_same)))
  apply c_loop (σ := Unit) (Fs := fun _ => [(37, .int .i64 0), (36, .int .i64 0), (2, .slice none 0 0), (0, .slice none 0 0)]) (Ls := fun _ => []) (I := fun _ => True) (μ := fun _ => 0) (s0 := ())
  · trivial
  · exact fS_
  · exact hS_
  rintro ⟨⟩ -
  repeat' (first | ((with_reducible apply c_cond_f); exact rfl; exact decide_eq_false (by omega)) | ((with_reducible first | apply o_move | apply o_assign | apply o_faddr0 | apply o_not_d); exact rfl; exact rfl) | ((with_reducible first | apply o_lss | apply o_gtr | apply o_geq | apply o_neq | apply o_extract); exact rfl; exact rfl; exact rfl) | ((with_reducible apply o_len); infer_instance; exact rfl; exact rfl) | ((with_reducible apply o_makeMap); infer_instance; exact rfl; exact rfl; intro _) | ((with_reducible first | apply c_seq | apply c_block | apply c_region | apply c_nil | apply c_ret | apply c_exit | apply c_skip)) | ((with_reducible first | apply e_then | apply e_then_ret | apply e_then_exit | apply e_in | apply e_in_ret | apply e_in_same)))
  apply c_loop (σ := Unit) (Fs := fun _ => [(51, .int .i64 0), (50, .int .i64 0)]) (Ls := fun _ => []) (I := fun _ => True) (μ := fun _ => 0) (s0 := ())
  · trivial
  · exact fS_
  · exact hS_
  rintro ⟨⟩ -
  repeat' (first | ((with_reducible apply c_cond_f); exact rfl; exact decide_eq_false (by omega)) | ((with_reducible first | apply o_move | apply o_assign | apply o_faddr0 | apply o_not_d); exact rfl; exact rfl) | ((with_reducible first | apply o_lss | apply o_gtr | apply o_geq | apply o_neq | apply o_extract); exact rfl; exact rfl; exact rfl) | ((with_reducible first | apply c_seq | apply c_block | apply c_region | apply c_nil | apply c_ret | apply c_exit | apply c_skip)) | ((with_reducible first | apply e_then | apply e_then_ret | apply e_then_exit | apply e_in | apply e_in_ret | apply e_in_same)))
  apply r_body; apply res2 Try.results47; exact rV_; exact rV_; intro w' hw
  exact ⟨rfl, hw.below (by simp)⟩
end Go.Proofs.Ytkhaemjoekfhiaa
namespace Go.Proofs.Ytkhaemjoekfhiaa
open Go Go.Sx Go.RowKit
attribute [local irreducible] WL WC WQ WR WB WF QB St Exit.then Exit.inBlock Exit.noGoto bodyPost roundPost beginK YR RG BM Calls B AgainD MeetD
/-! ## a plant's value -/
structure MD where
  id : Int
  sweeps : Int
  rate : Int
  caps : SD
  shifts : SD
structure PD where
  id : Int
  mach : Int
  rel : Int
  src : SD
  table : SD
  unread : SD
def encMD (d : MD) : List Value := [.int .i64 d.id, .int .i64 d.sweeps, .int .i64 d.rate, sdV d.caps, sdV d.shifts]
theorem encMD_len : ∀ x, (encMD x).length = 5 := fun _ => rfl
def encPD (d : PD) : List Value := [.int .i64 d.id, .int .i64 d.mach, .int .i64 d.rel, sdV d.src, sdV d.table, sdV d.unread]
theorem encPD_len : ∀ x, (encPD x).length = 6 := fun _ => rfl
def encItem (x : Plt.Item) : List Value := [.int .i64 x.id, .int .i64 x.stop, .int .i64 x.batch]
theorem encItem_len : ∀ x, (encItem x).length = 3 := fun _ => rfl
theorem encItem_one : ∀ x, (encItem x).all (·.oneCell') = true := fun _ => rfl
def encSrc (s : Int × Int) : List Value := [.int .i64 s.1, .int .i64 s.2]
theorem encSrc_len : ∀ x, (encSrc x).length = 2 := fun _ => rfl
theorem encSrc_one : ∀ x, (encSrc x).all (·.oneCell') = true := fun _ => rfl
def encRow (e : Plt.Row) : List Value := [.int .i64 e.stop, .int .i64 e.st]
theorem encRow_len : ∀ x, (encRow x).length = 2 := fun _ => rfl
theorem encRow_one : ∀ x, (encRow x).all (·.oneCell') = true := fun _ => rfl
structure MachV (w : World) (d : MD) (m : Plt.Mach) : Prop where
  id : d.id = m.id
  sweeps : d.sweeps = m.sweeps
  rate : d.rate = m.rate
  caps : SV w 1 encI (sdV d.caps) m.caps
  shifts : SV w 2 encSh (sdV d.shifts) m.shifts
theorem MachV.keep {w0 w : World} {L : List Ent} {d : MD} {m : Plt.Mach} (h : MachV w0 d m) (hw : Rep w0 w L) (ho : AO L) : MachV w d m := ⟨h.id, h.sweeps, h.rate, h.caps.keep hw ho, h.shifts.keep hw ho⟩
structure PassV (w : World) (d : PD) (y : Plt.Pass) : Prop where
  id : d.id = y.id
  mach : d.mach = y.mach
  rel : d.rel = y.rel
  src : SV w 2 encSrc (sdV d.src) y.src
  table : SV w 2 encRow (sdV d.table) y.table
  unread : SV w 1 encI (sdV d.unread) y.unread
theorem PassV.keep {w0 w : World} {L : List Ent} {d : PD} {y : Plt.Pass} (h : PassV w0 d y) (hw : Rep w0 w L) (ho : AO L) : PassV w d y := ⟨h.id, h.mach, h.rel, h.src.keep hw ho, h.table.keep hw ho, h.unread.keep hw ho⟩
structure PlD where
  m : SD
  i : SD
  p : SD
  ds : List MD
  ys : List PD
structure PlV (w : World) (q : PlD) (p : Plt.Plant) : Prop where
  ms : SV w 5 encMD (sdV q.m) q.ds
  items : SV w 3 encItem (sdV q.i) p.items
  ps : SV w 6 encPD (sdV q.p) q.ys
  lm : q.ds.length = p.ms.length
  lp : q.ys.length = p.passes.length
  machs : ∀ (i : Nat) (d : MD) (m : Plt.Mach), q.ds[i]? = some d → p.ms[i]? = some m → MachV w d m
  pass : ∀ (i : Nat) (d : PD) (y : Plt.Pass), q.ys[i]? = some d → p.passes[i]? = some y → PassV w d y
theorem PlV.keep {w0 w : World} {L : List Ent} {q : PlD} {p : Plt.Plant} (h : PlV w0 q p) (hw : Rep w0 w L) (ho : AO L) : PlV w q p :=
  ⟨h.ms.keep hw ho, h.items.keep hw ho, h.ps.keep hw ho, h.lm, h.lp, fun i d m h1 h2 => (h.machs i d m h1 h2).keep hw ho, fun i d y h1 h2 => (h.pass i d y h1 h2).keep hw ho⟩
@[reducible] def plV (q : PlD) : Value := .agg #[sdV q.m, sdV q.i, sdV q.p]
/-! ## IDs, machines -/
theorem id_calls (x : Int) (w : World) : Calls Try.prog 28 #[.int .i64 x] w fun e w' => e = .returned (.bool (decide (1 ≤ x ∧ x ≤ 999999))) ∧ Below w.heap.size w w' := by
  by_cases h1 : 1 ≤ x
  · by_cases h2 : x ≤ 999999
    · rw [decide_eq_true ⟨h1, h2⟩]
      refine f_enter1 Try.func28 rfl Try.ntmps28 rfl (Rep.start w) ?_
      repeat' (first | ((with_reducible apply o_pick_t); exact rfl; exact decide_eq_true (by omega); exact rfl; exact rfl) | ((with_reducible apply g_run); exact rfl; exact decide_eq_true (by omega)) | ((with_reducible first | apply o_move | apply o_assign); exact rfl; exact rfl) | ((with_reducible first | apply o_leq | apply o_geq); exact rfl; exact rfl; exact rfl) | ((with_reducible first | apply c_seq | apply c_block | apply c_region | apply c_nil | apply c_ret | apply c_exit | apply c_skip)) | ((with_reducible first | apply e_then | apply e_then_ret | apply e_then_exit | apply e_in | apply e_in_ret | apply e_in_same)))
      apply r_body; apply res1 Try.results28; exact rV_; intro w' hw
      refine ⟨?_, hw.below (by simp)⟩
      simp [h2]
    · rw [decide_eq_false (fun h => h2 h.2)]
      refine f_enter1 Try.func28 rfl Try.ntmps28 rfl (Rep.start w) ?_
      repeat' (first | ((with_reducible apply o_pick_t); exact rfl; exact decide_eq_true (by omega); exact rfl; exact rfl) | ((with_reducible apply g_run); exact rfl; exact decide_eq_true (by omega)) | ((with_reducible first | apply o_move | apply o_assign); exact rfl; exact rfl) | ((with_reducible first | apply o_leq | apply o_geq); exact rfl; exact rfl; exact rfl) | ((with_reducible first | apply c_seq | apply c_block | apply c_region | apply c_nil | apply c_ret | apply c_exit | apply c_skip)) | ((with_reducible first | apply e_then | apply e_then_ret | apply e_then_exit | apply e_in | apply e_in_ret | apply e_in_same)))
      apply r_body; apply res1 Try.results28; exact rV_; intro w' hw
      refine ⟨?_, hw.below (by simp)⟩
      simp [h2]
  · rw [decide_eq_false (fun h => h1 h.1)]
    refine f_enter1 Try.func28 rfl Try.ntmps28 rfl (Rep.start w) ?_
    repeat' (first | ((with_reducible apply o_pick_f); exact rfl; exact decide_eq_false (by omega); exact rfl; exact rfl) | ((with_reducible apply g_skip); exact rfl; exact decide_eq_false (by omega); exact rfl) | ((with_reducible first | apply o_move | apply o_assign); exact rfl; exact rfl) | ((with_reducible first | apply o_leq | apply o_geq); exact rfl; exact rfl; exact rfl) | ((with_reducible first | apply c_seq | apply c_block | apply c_region | apply c_nil | apply c_ret | apply c_exit | apply c_skip)) | ((with_reducible first | apply e_then | apply e_then_ret | apply e_then_exit | apply e_in | apply e_in_ret | apply e_in_same)))
    apply r_body; apply res1 Try.results28; exact rV_; intro w' hw
    exact ⟨rfl, hw.below (by simp)⟩
theorem run_is {cv fv : Value} {caps : List Int} {s k : Int} {l : List Srt.Fd} (hk : (Srt.runF caps s l).2 = k) (w : World) (h : SV w 1 encI cv caps) (hl : SV w 2 encF fv l) :
    Calls Try.prog 45 #[cv, .int .i64 s, fv] w fun e w' => ∃ v N, e = .returned v ∧ (∃ x1 x2 x3 x4 x5, v = .tuple #[.agg #[sdV x1, sdV x2, sdV x3, sdV x4, sdV x5], .int .i64 k] ∧ ∀ x ∈ N, x.own = true) ∧ Rep w w' N ∧ ∀ x ∈ N, x.own = true :=
  (run_calls w h hl).mono fun e w' ⟨v, N, h1, h2, h3, h4⟩ => by
    obtain ⟨pv, rfl, ⟨a1, c1, a2, c2, a3, c3, a4, c4, a5, c5, ss, N1, M1, N2, N3, N4, N5, rfl, -⟩, _⟩ := h2
    exact ⟨_, N, h1, ⟨(a1, _, c1), (a2, _, c2), (a3, _, c3), (a4, _, c4), (a5, _, c5), by rw [hk], h4⟩, h3, h4⟩
theorem right_calls {d : MD} {m : Plt.Mach} (w : World) (h : MachV w d m) : Calls Try.prog 27 #[.agg #[.int .i64 d.id, .int .i64 d.sweeps, .int .i64 d.rate, sdV d.caps, sdV d.shifts]] w fun e w' => e = .returned (.bool (decide (Plt.rightM m))) ∧ Below w.heap.size w w' := by
  obtain ⟨id, sw, ra, ca, sh⟩ := d
  obtain ⟨e1, e2, e3, hc, hs⟩ := h
  dsimp only at e1 e2 e3 hc hs ⊢
  subst e1 e2 e3
  have hR : ∀ b : Bool, (b = true ↔ ((1 ≤ m.id ∧ m.id ≤ 999999) ∧ (1 ≤ m.rate ∧ m.rate ≤ 1000) ∧ (Srt.runF m.caps m.sweeps []).2 = 0 ∧ (Plt.allowedF [] m.shifts).2 = 0)) → decide (Plt.rightM m) = b := fun b hb => by
    cases b
    · exact decide_eq_false (fun h => by have := hb.2 h; cases this)
    · exact decide_eq_true (hb.1 rfl)
  obtain ⟨k, hk⟩ : ∃ k, (Srt.runF m.caps m.sweeps []).2 = k := ⟨_, rfl⟩
  obtain ⟨⟨i, q⟩, hq⟩ : ∃ q, Plt.allowedF [] m.shifts = q := ⟨_, rfl⟩
  by_cases hid : (1 ≤ m.id ∧ m.id ≤ 999999) ∧ 1 ≤ m.rate ∧ m.rate ≤ 1000
  case neg =>
    rw [hR false (by constructor; (intro h; cases h); exact fun h => absurd ⟨h.1, h.2.1⟩ hid)]
    refine f_enter1 Try.func27 rfl Try.ntmps27 rfl (Rep.start w) ?_
    repeat' (first | ((first | ((with_reducible apply o_call_pure (f := 28)); exact rfl) | ((with_reducible apply q_call_pure (f := 28)); exact rfl; kernel_rfl; exact rfl; exact sJ_)); exact eV_; exact (fun w hw => id_calls m.id w)) | ((with_reducible first | apply o_move | apply o_assign | apply o_faddr0 | apply o_not_d); exact rfl; exact rfl) | ((with_reducible apply gdo_load); first | refine wo_load (h := ?_) | refine wo_loadAll (h := ?_) | refine wo_loadC (h := ?_) | refine wo_ldV (h := ?_) | refine wo_ldF (h := ?_)) | ((with_reducible first | apply o_lss | apply o_gtr | apply o_eql | apply o_neq | apply o_extract); exact rfl; exact rfl; exact rfl) | ((with_reducible apply o_pick_t); exact rfl; exact tT_; exact rfl; exact rfl) | ((with_reducible apply o_pick_f); exact rfl; exact fF_; exact rfl; exact rfl) | ((with_reducible apply o_box); exact rfl; exact rfl; exact rfl; intro _) | ((with_reducible first | apply g_run); exact rfl; exact gG_) | ((with_reducible apply g_skip); exact rfl; exact gG_; exact rfl) | ((with_reducible first | apply c_seq | apply c_block | apply c_region | apply c_nil | apply c_ret | apply c_exit | apply c_skip)) | ((with_reducible apply c_cond_t); exact rfl; exact tT_) | ((with_reducible first | apply e_then | apply e_then_ret | apply e_then_exit | apply e_in | apply e_in_ret | apply e_in_same)) | ((with_reducible apply g_split_d); exact rfl; intro hcond; rotate_left; intro hcond; rotate_left))
    all_goals first
      | (exfalso; omega)
      | (apply r_body; apply res1 Try.results27; exact rV_; intro w' hw; exact ⟨rfl, hw.below (by simp)⟩)
  by_cases hk0 : k = 0
  case neg =>
    rw [hR false (by constructor; (intro h; cases h); exact fun h => absurd (hk.symm.trans h.2.2.1) hk0)]
    refine f_enter1 Try.func27 rfl Try.ntmps27 rfl (Rep.start w) ?_
    repeat' (first | ((with_reducible apply c_cond_t); exact rfl; exact decide_eq_true (by omega)) | ((with_reducible apply c_cond_f); exact rfl; exact decide_eq_false (by omega)) | ((with_reducible apply o_pick_f); exact rfl; exact decide_eq_false (by omega); exact rfl; exact rfl) | ((with_reducible apply g_run); exact rfl; exact decide_eq_false (by omega)) | ((first | ((with_reducible apply o_call_pure (f := 28)); exact rfl) | ((with_reducible apply q_call_pure (f := 28)); exact rfl; kernel_rfl; exact rfl; exact sJ_)); exact eV_; exact (fun w hw => id_calls m.id w)) | ((first | ((with_reducible apply o_call_new (f := 45)); exact rfl) | ((with_reducible apply q_call_new (f := 45)); exact rfl; exact rfl; exact sJ_)); exact eV_; exact (fun w hw => run_is hk w (hc.keep hw (by exact aO_)) (SV.nil : SV w 2 encF (.slice none 0 0) [])); rintro v N ⟨x1, x2, x3, x4, x5, rfl, oN⟩ <;> (try simp only [List.cons_append, List.nil_append])) | ((with_reducible first | apply o_move | apply o_assign | apply o_faddr0 | apply o_not_d); exact rfl; exact rfl) | ((with_reducible apply gdo_load); first | refine wo_load (h := ?_) | refine wo_loadAll (h := ?_) | refine wo_loadC (h := ?_) | refine wo_ldV (h := ?_) | refine wo_ldF (h := ?_)) | ((with_reducible first | apply o_lss | apply o_gtr | apply o_eql | apply o_neq | apply o_extract); exact rfl; exact rfl; exact rfl) | ((with_reducible apply o_alloc); exact rfl; intro _) | ((with_reducible apply o_box); exact rfl; exact rfl; exact rfl; intro _) | ((with_reducible apply gdo_store); first | refine wo_store1 (h := ?_) | refine wo_storeA (h := ?_)) | ((with_reducible first | apply c_seq | apply c_block | apply c_region | apply c_nil | apply c_ret | apply c_exit | apply c_skip)) | ((with_reducible first | apply e_then | apply e_then_ret | apply e_then_exit | apply e_in | apply e_in_ret | apply e_in_same)))
    apply r_body; apply res1 Try.results27; exact rV_; intro w' hw
    exact ⟨rfl, hw.below (show AO _ from by exact aO_)⟩
  subst hk0
  rw [hR (decide (q = 0)) (by
    rw [decide_eq_true_eq]
    constructor
    · exact fun h => ⟨hid.1, hid.2, hk, by rw [hq]; exact h⟩
    · exact fun h => by have := h.2.2.2; rw [hq] at this; exact this)]
  refine f_enter1 Try.func27 rfl Try.ntmps27 rfl (Rep.start w) ?_
  repeat' (first | ((with_reducible apply c_cond_f); exact rfl; exact decide_eq_false (by omega)) | ((with_reducible apply o_pick_f); exact rfl; exact decide_eq_false (by omega); exact rfl; exact rfl) | ((with_reducible apply g_run); exact rfl; exact decide_eq_false (by omega)) | ((first | ((with_reducible apply o_call_pure (f := 28)); exact rfl) | ((with_reducible apply q_call_pure (f := 28)); exact rfl; kernel_rfl; exact rfl; exact sJ_)); exact eV_; exact (fun w hw => id_calls m.id w)) | ((first | ((with_reducible apply o_call_new (f := 45)); exact rfl) | ((with_reducible apply q_call_new (f := 45)); exact rfl; exact rfl; exact sJ_)); exact eV_; exact (fun w hw => run_is hk w (hc.keep hw (by exact aO_)) (SV.nil : SV w 2 encF (.slice none 0 0) [])); rintro v N ⟨x1, x2, x3, x4, x5, rfl, oN⟩ <;> (try simp only [List.cons_append, List.nil_append])) | ((first | ((with_reducible apply o_call_pure (f := 47)); exact rfl) | ((with_reducible apply q_call_pure (f := 47)); exact rfl; kernel_rfl; exact rfl; exact sJ_)); exact eV_; exact (fun w hw => scheck_calls hq w (hs.keep hw (by exact aO_)))) | ((with_reducible first | apply o_move | apply o_assign | apply o_faddr0 | apply o_not_d); exact rfl; exact rfl) | ((with_reducible apply gdo_load); first | refine wo_load (h := ?_) | refine wo_loadAll (h := ?_) | refine wo_loadC (h := ?_) | refine wo_ldV (h := ?_) | refine wo_ldF (h := ?_)) | ((with_reducible first | apply o_lss | apply o_gtr | apply o_eql | apply o_neq | apply o_extract); exact rfl; exact rfl; exact rfl) | ((with_reducible apply o_alloc); exact rfl; intro _) | ((with_reducible apply o_box); exact rfl; exact rfl; exact rfl; intro _) | ((with_reducible apply gdo_store); first | refine wo_store1 (h := ?_) | refine wo_storeA (h := ?_)) | ((with_reducible first | apply c_seq | apply c_block | apply c_region | apply c_nil | apply c_ret | apply c_exit | apply c_skip)) | ((with_reducible first | apply e_then | apply e_then_ret | apply e_then_exit | apply e_in | apply e_in_ret | apply e_in_same)))
  apply r_body; apply res1 Try.results27; exact rV_; intro w' hw
  exact ⟨rfl, hw.below (show AO _ from by exact aO_)⟩
end Go.Proofs.Ytkhaemjoekfhiaa
