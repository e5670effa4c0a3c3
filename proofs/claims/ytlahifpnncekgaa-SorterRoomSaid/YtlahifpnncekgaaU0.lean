/-
  A part of the proofs of this seat: what some of the program's functions compute, shown by walks through their code. Conditions: the hypotheses that each theorem names. (Its blocks of tactics were laid by a small program.)
-/
import Derived.Test.YtlahifpnncekgaaQ5
import Derived.Test.YtlahifpnncekgaaQ2
import Derived.Test.YtlahifpnncekgaaRR
set_option linter.unusedSimpArgs false
set_option linter.unusedVariables false
namespace Go.Proofs.Ytlahifpnncekgaa
open Go Go.Sx Go.RowKit
section
variable {P : Program} {n : Nat} {D : List Deferred} {w0 : World} {F : List (Nat × Value)} {L L0 : List Ent} {Q : Exit → Act → World → Prop} {r : Option Nat} {ops : Array Oper}
variable {d : Tmp} {ty : TypeId} {pos : String} {af : Array Edge} {rest : List Oper}
theorem o_storeT {α : Type} {enc : α → List Value} {t e : TypeId} {k kk m o : Nat} {x y : Operand} {b p : Nat} {v : Value} {xs ys : List α} {z : α} (z' : α) (hys : xs.set m z' = ys) {s vs : List Value} {L' : List Ent} (hS : TS P t kk) (hx : ev F x = some (.pointer (some ⟨b, p, none⟩))) (hy : ev F y = some v)
    (hat : At L b (Ce (xs.flatMap enc ++ s) e)) (hz : xs[m]? = some z) (henc : ∀ x, (enc x).length = k) (hp : p = m * k + o) (hvs : v.cells = vs.toArray) (hlen : vs.length = kk) (h1 : ∀ u ∈ vs, u.oneCell' = true) (ho : o + vs.length ≤ k)
    (he : enc z' = (enc z).take o ++ vs ++ (enc z).drop (o + vs.length)) (hu : Upd L b (Ce (xs.flatMap enc ++ s) e) (Ce (ys.flatMap enc ++ s) e) L')
    (h : St n D w0 F L' (WL r P ops Q rest)) :
    St n D w0 F L (WL r P ops Q (⟨none, .store t x y, ty, pos, af, none⟩ :: rest)) := by
  subst hys
  exact o_storeS z' hS hx hy hat hz henc hp hvs hlen h1 ho he hu h
end
theorem permC {e : Ent} {L M R : List Ent} (h : Rem L e M) (h2 : RemL M R []) : RemL L (e :: R) [] := h.perm.trans (List.Perm.cons e h2)
attribute [local irreducible] WL WC WQ WR St Exit.then Exit.inBlock Exit.noGoto bodyPost roundPost beginK YR RG BM Calls B AgainD MeetD
/-! ## machines that are played -/
def encE (e : Srt.Ev) : List Value := [.int .u8 e.kind, .int .i64 e.item, .int .i64 e.st]
theorem encE_len : ∀ x, (encE x).length = 3 := fun _ => rfl
theorem encE_one : ∀ x, (encE x).all (·.oneCell') = true := fun _ => rfl
def encF (f : Srt.Fd) : List Value := [.int .i64 f.item, .int .i64 f.st]
theorem encF_len : ∀ x, (encF x).length = 2 := fun _ => rfl
theorem encF_one : ∀ x, (encF x).all (·.oneCell') = true := fun _ => rfl
/-- What lies where a machine is played: its block b, and its rows. -/
def mach (n b : Nat) (cv : Value) (m : Srt.M) (G : List Ent) : Prop := ∃ bs bw bh ao co ar cr ae ce ss ML NO NR NE,
  G = ⟨b, Ce [slc bs n, slc bw n, .slice ao m.over.length co, .slice ar m.rej.length cr, .slice ae m.evs.length ce, cv, slc bh n, .int .i64 m.left] 96, true⟩ :: ⟨bs, Ce (ss.flatMap encS ++ []) 23, true⟩ :: ⟨bw, Ce (m.swept.flatMap encI ++ []) 3, true⟩ :: ⟨bh, Ce (m.held.flatMap encI ++ []) 3, true⟩ :: (ML ++ (NO ++ (NR ++ (NE ++ [])))) ∧
  LL 3 1 encI ss m.stackers ML ∧ OW 3 1 encI (.slice ao m.over.length co) m.over NO ∧ OW 3 1 encI (.slice ar m.rej.length cr) m.rej NR ∧ OW 43 3 encE (.slice ae m.evs.length ce) m.evs NE ∧ Srt.Sz n m
theorem mach.own {n b : Nat} {cv : Value} {m : Srt.M} {G : List Ent} (h : mach n b cv m G) : ∀ x ∈ G, x.own = true := by
  obtain ⟨bs, bw, bh, ao, co, ar, cr, ae, ce, ss, ML, NO, NR, NE, rfl, h1, h2, h3, h4, _⟩ := h
  exact show AO _ from .cons (.cons (.cons (.cons (.app h1.own (.app h2.own (.app h3.own (.app h4.own .nil)))))))
theorem U_nil_rows (n : Nat) : (List.replicate n [Value.slice none 0 0]).flatten = (List.replicate n ((none, 0, 0) : SD)).flatMap encS ++ [] := by
  rw [List.append_nil, List.flatMap_def, List.map_replicate]
  rfl
theorem U_nils {α : Type} {E : TypeId} {k : Nat} {enc : α → List Value} : ∀ n : Nat, LL E k enc (List.replicate n ((none, 0, 0) : SD)) (List.replicate n []) []
  | 0 => LL.nil
  | n + 1 => by
    rw [List.replicate_succ, List.replicate_succ]
    exact LL.cons (s := (none, 0, 0)) (N := []) OW.nil (U_nils n)
set_option maxHeartbeats 4000000 in
theorem new_calls {cv : Value} {caps : List Int} {s : Int} (w : World) (h : SV w 1 encI cv caps) (hn : caps.length ≤ 64) : Calls Try.prog 34 #[cv, .int .i64 s] w fun e w' => ∃ v N, e = .returned v ∧ (∃ b, v = ptr b ∧ mach caps.length b cv (Srt.M.new caps.length s) N ∧ ∀ x ∈ N, x.own = true) ∧ Rep w w' N ∧ ∀ x ∈ N, x.own = true := by
  obtain ⟨a0, ca, rfl, hca, hop⟩ := h.open
  refine f_enter2 Try.func34 rfl Try.ntmps34 rfl (Rep.start w) ?_
  repeat' (first | ((with_reducible first | apply o_move | apply o_assign); exact rfl; exact rfl) | ((with_reducible apply o_len); infer_instance; exact rfl; exact rfl) | ((with_reducible first | apply c_seq | apply c_block | apply c_region | apply c_nil | apply c_ret | apply c_exit | apply c_unroll | apply c_skip)) | ((with_reducible first | apply e_then | apply e_then_ret | apply e_then_exit | apply e_in | apply e_in_ret | apply e_in_same)) | ((with_reducible apply c_regionD0 (id := 2) []); kernel_rfl; kernel_rfl) | ((with_reducible apply q_nil); try simp only [ents, List.cons_append, List.nil_append]) | ((with_reducible first | apply q_move | apply q_assign); exact rfl; exact rfl) | ((with_reducible apply gdq_build); first | refine wq_build (h := ?_) | refine wq_buildA (h := ?_)) | ((with_reducible apply q_box); exact rfl; exact rfl; exact rfl; intro _) | ((with_reducible apply gdq_makeSlice); refine wq_makeSlice (h := fun _ => ?_)))
  rename_i bs bw bh b
  simp only [U_nil_rows, zeros_row] at *
  apply r_body; apply res1 Try.results34; exact rV_; intro w' hw
  have hm : mach caps.length b (.slice a0 caps.length ca) (Srt.M.new caps.length s) (⟨b, Ce [slc bs caps.length, slc bw caps.length, .slice none 0 0, .slice none 0 0, .slice none 0 0, .slice a0 caps.length ca, slc bh caps.length, .int .i64 s] 96, true⟩ :: ⟨bs, Ce ((List.replicate caps.length ((none, 0, 0) : SD)).flatMap encS ++ []) 23, true⟩ :: ⟨bw, Ce ((List.replicate caps.length (0 : Int)).flatMap encI ++ []) 3, true⟩ :: ⟨bh, Ce ((List.replicate caps.length (0 : Int)).flatMap encI ++ []) 3, true⟩ :: ([] ++ ([] ++ ([] ++ ([] ++ []))))) :=
    ⟨bs, bw, bh, none, 0, none, 0, none, 0, _, [], [], [], [], rfl, U_nils _, OW.nil, OW.nil, OW.nil, Srt.Sz.new _ _⟩
  exact ⟨_, _, rfl, ⟨b, rfl, hm, hm.own⟩, hw.sub (by ((try dsimp only); repeat (first | exact HSub.nil rfl | (apply HSub.take; (repeat (first | exact Rem.hd | apply Rem.tl | apply Rem.right))) | exact HSub.same | (apply HSub.takeL; ((focus (repeat (first | exact RemL.hd | exact RemL.all | exact RemL.nil | apply RemL.tl | apply RemL.right))) <;> done)) | apply HSub.drop | (apply HSub.takeL; (focus ((repeat (first | exact RemL.hd | exact RemL.all | exact RemL.nil | apply RemL.tl | apply RemL.right))))) | (apply HSub.takeA; (first | exact RemL.hd | exact RemL.all); ((focus (repeat (first | exact AO.nil | apply AO.cons | (apply AO.app; assumption)))) <;> done)) | (apply HSub.dropL; assumption) | (apply HSub.takeA; (focus ((repeat (first | exact RemL.hd | exact RemL.all | exact RemL.nil | apply RemL.tl | apply RemL.right)))); ((focus (repeat (first | exact AO.nil | apply AO.cons | (apply AO.app; assumption)))) <;> done)) | (apply HSub.nilA; ((focus (repeat (first | exact AO.nil | apply AO.cons | (apply AO.app; assumption)))) <;> done))))), hm.own⟩
set_option maxHeartbeats 4000000 in
theorem note_calls {w0 w : World} {L0 NE : List Ent} {b ce : Nat} {ae : Option Addr} {x0 x1 x2 x3 x5 x6 x7 v : Value} {es ys : List Srt.Ev} (hO : OW 43 3 encE (.slice ae es.length ce) es NE)
    (hw : Rep w0 w (⟨b, Ce [x0, x1, x2, x3, .slice ae es.length ce, x5, x6, x7] 96, true⟩ :: (NE ++ L0))) (hsv : ∀ w', Rep w0 w' (⟨b, Ce [x0, x1, x2, x3, .slice ae es.length ce, x5, x6, x7] 96, true⟩ :: (NE ++ L0)) → SV w' 3 encE v ys) (hb : es.length ≤ 100000 ∧ ys.length ≤ 2) :
    Calls Try.prog 44 #[ptr b, v] w fun e w' => ∃ r G', e = .returned r ∧ (r = .tuple #[] ∧ ∃ a' c' N', G' = ⟨b, Ce [x0, x1, x2, x3, .slice a' (es ++ ys).length c', x5, x6, x7] 96, true⟩ :: N' ∧ OW 43 3 encE (.slice a' (es ++ ys).length c') (es ++ ys) N') ∧ Rep w0 w' (G' ++ L0) := by
  have hNE := hO.own
  refine f_enterF2 Try.func44 rfl Try.ntmps44 rfl (hw) ?_
  repeat' (first | (apply o_appH (enc := encE); infer_instance; infer_instance; infer_instance; exact rfl; exact encE_len; exact encE_one; exact rfl; exact rfl; exact rfl; assumption; (repeat (first | exact RemL.hd | exact RemL.all | exact RemL.nil | apply RemL.tl | apply RemL.right)); (exact fun w hw => (hsv w hw)); (first | decide | (constructor <;> (try simp only [List.length_cons, List.length_nil]) <;> omega) | (constructor <;> simp <;> omega)); intro _ _ _ _) | ((with_reducible first | apply o_move | apply o_faddr0 | apply o_nilCheck); exact rfl; exact rfl) | ((with_reducible apply gdo_load); first | refine wo_load (h := ?_) | refine wo_loadAll (h := ?_) | refine wo_loadC (h := ?_) | refine wo_ldV (h := ?_) | refine wo_ldF (h := ?_)) | ((with_reducible apply gdo_store); first | refine wo_store1 (h := ?_) | refine wo_storeA (h := ?_)) | ((with_reducible first | apply c_seq | apply c_block | apply c_region | apply c_nil | apply c_ret | apply c_exit | apply c_unroll | apply c_skip)))
  rename_i a' c' N' hO'
  apply r_body'; apply res0 Try.results44; intro w' hw
  exact ⟨_, _, rfl, ⟨rfl, a', c', N', rfl, hO'⟩, hw.sub (by simp only [List.cons_append]; ((try dsimp only); repeat (first | exact HSub.nil rfl | (apply HSub.take; (repeat (first | exact Rem.hd | apply Rem.tl | apply Rem.right))) | exact HSub.same | (apply HSub.takeL; ((focus (repeat (first | exact RemL.hd | exact RemL.all | exact RemL.nil | apply RemL.tl | apply RemL.right))) <;> done)) | apply HSub.drop | (apply HSub.takeL; (focus ((repeat (first | exact RemL.hd | exact RemL.all | exact RemL.nil | apply RemL.tl | apply RemL.right))))) | (apply HSub.takeA; (first | exact RemL.hd | exact RemL.all); ((focus (repeat (first | exact AO.nil | apply AO.cons | (apply AO.app; assumption)))) <;> done)) | (apply HSub.dropL; assumption) | (apply HSub.takeA; (focus ((repeat (first | exact RemL.hd | exact RemL.all | exact RemL.nil | apply RemL.tl | apply RemL.right)))); ((focus (repeat (first | exact AO.nil | apply AO.cons | (apply AO.app; assumption)))) <;> done)) | (apply HSub.nilA; ((focus (repeat (first | exact AO.nil | apply AO.cons | (apply AO.app; assumption)))) <;> done)))))⟩
/-- The call of note, seen by its caller. -/
theorem o_note {n : Nat} {D : List Deferred} {w0 : World} {F : List (Nat × Value)} {L L1 L2 NE : List Ent} {Q : Exit → Act → World → Prop} {r : Option Nat} {ops : Array Oper} {d : Tmp} {ty : TypeId} {pos : String} {af : Array Edge} {rest : List Oper} {x y : Operand} {ats : Array TypeId}
    {b ce : Nat} {ae : Option Addr} {x0 x1 x2 x3 x5 x6 x7 v : Value} {es ys : List Srt.Ev} (hx : ev F x = some (ptr b)) (hy : ev F y = some v) (hd : Nat.ble (d + 1) n = true)
    (hr : Rem L ⟨b, Ce [x0, x1, x2, x3, .slice ae es.length ce, x5, x6, x7] 96, true⟩ L1) (hO : OW 43 3 encE (.slice ae es.length ce) es NE) (hr2 : RemL L1 NE L2) (hsv : ∀ w, Rep w0 w L → SV w 3 encE v ys) (hb : es.length ≤ 100000 ∧ ys.length ≤ 2)
    (h : ∀ a' c' N', OW 43 3 encE (.slice a' (es ++ ys).length c') (es ++ ys) N' → St n D w0 ((d, .tuple #[]) :: F) (⟨b, Ce [x0, x1, x2, x3, .slice a' (es ++ ys).length c', x5, x6, x7] 96, true⟩ :: (N' ++ L2)) (WL r Try.prog ops Q rest)) :
    St n D w0 F L (WL r Try.prog ops Q (⟨some d, .call ⟨.value (.func 44), #[x, y], ats⟩, ty, pos, af, none⟩ :: rest)) := by
  have hp : RemL L (⟨b, Ce [x0, x1, x2, x3, .slice ae es.length ce, x5, x6, x7] 96, true⟩ :: NE) L2 := RemL.cons hr hr2
  refine o_call_frame (f := 44) (x := .func 44) (caps := #[]) (xs := [x, y]) (vs := [ptr b, v]) (L0 := L2) (G := ⟨b, Ce [x0, x1, x2, x3, .slice ae es.length ce, x5, x6, x7] 96, true⟩ :: NE)
    (Φ := fun v G' => v = .tuple #[] ∧ ∃ a' c' N', G' = ⟨b, Ce [x0, x1, x2, x3, .slice a' (es ++ ys).length c', x5, x6, x7] 96, true⟩ :: N' ∧ OW 43 3 encE (.slice a' (es ++ ys).length c') (es ++ ys) N') rfl hd ?_ hp ?_ ?_
  · exact Evs.cons hx (Evs.cons hy Evs.nil)
  · intro w hw
    rw [Array.append_empty]
    exact note_calls hO hw (fun w' hw' => hsv w' (hw'.perm (List.Perm.symm hp))) hb
  · rintro v G' ⟨rfl, a', c', N', rfl, hO'⟩
    exact h a' c' N' hO'
end Go.Proofs.Ytlahifpnncekgaa
