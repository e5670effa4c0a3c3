/- Scopes without jumps; callees that turn what the caller holds; rows of rows. No program in sight. -/
import Derived.Test.YteilhjglohahoaaSxE
import Derived.Scope
namespace Go.Sx
open Go Go.RowKit
set_option linter.unusedVariables false
section
variable {P : Program} {b : Frame} {a : Act} {k : List Item} {cs : List Frame} {w : World}
theorem stepR_scope {c : Code} : step P (lone (b.atR a (.code (.scope c) :: k)) cs w) = .next (lone (b.atR a (.code c :: .inScope c :: k)) cs w) :=
  step_lone_go (by simp [stepG, stepG.exec, Frame.atR])
theorem stepR_inScope {c : Code} : step P (lone (b.atR a (.inScope c :: k)) cs w) = .next (lone (b.atR a k) cs w) :=
  step_lone_go (by simp [stepG, stepG.exec, Frame.atR])
end
section
variable {r : Option Nat} {P : Program} {n : Nat} {D : List Deferred} {w0 : World} {F : List (Nat × Value)} {L L0 : List Ent} {Q : Exit → Act → World → Prop} {ops : Array Oper}
variable {d : Tmp} {ty : TypeId} {pos : String} {af : Array Edge} {rest : List Oper}
theorem c_scope {c : Code} (h : St n D w0 F L (WC r P c (Exit.noGoto Q))) : St n D w0 F L (WC r P (.scope c) Q) := by
  intro a w ha hw b k cs hro hb hr
  obtain ⟨e, a₁, w₁, hq, harr⟩ := h a w ha hw b (.inScope c :: k) cs hro hb hr
  have h0 : (lone (b.atR a (.code (.scope c) :: k)) cs w).fenced P (FR r) := fenced_calm hb hr rfl
  cases e with
  | normal => exact ⟨.normal, a₁, w₁, hq, .head h0 stepR_scope (StepsIn.trans harr (.one (fenced_calm hb hr rfl) stepR_inScope))⟩
  | exit id =>
    have hx : exitTo id (.inScope c :: k) = exitTo id k := by simp [exitTo]
    exact ⟨.exit id, a₁, w₁, hq, fun k' hk => .head h0 stepR_scope (harr.1 k' (by rw [hx]; exact hk)),
      fun hr' hk => let ⟨k₁, h1, h2⟩ := harr.2 hr' (by rw [hx]; exact hk); ⟨k₁, h1, .head h0 stepR_scope h2⟩⟩
  | goto l => exact hq.elim
  | ret => exact ⟨_, a₁, w₁, hq, .of_steps (.one h0 stepR_scope) harr⟩
  | panic ch => exact ⟨_, a₁, w₁, hq, .of_steps (.one h0 stepR_scope) harr⟩
  | outgrown => exact ⟨_, a₁, w₁, hq, .of_steps (.one h0 stepR_scope) harr⟩
theorem e_ng (h : St n D w0 F L (Q .normal)) : St n D w0 F L (Exit.noGoto Q .normal) := h
theorem e_ng_ret (h : St n D w0 F L (Q .ret)) : St n D w0 F L (Exit.noGoto Q .ret) := h
theorem e_ng_exit {id : Nat} (h : St n D w0 F L (Q (.exit id))) : St n D w0 F L (Exit.noGoto Q (.exit id)) := h
/-- A loop that stands ahead of a round. -/
def WR (r : Option Nat) (P : Program) (c : Code) (Q : Exit → Act → World → Prop) : Act → World → Prop := fun a w => ∀ (b : Frame) (k : List Item) (cs : List Frame), b.roundOf = (FR r).round → (FR r).fn b.fn → (FR r).room (cs.length + 1 + 0) → ∃ e a' w', Q e a' w' ∧ ArrivesIn (Machine.fenced P (FR r)) P (lone (b.atR a (.code c :: .inLoop c :: k)) cs w) b k cs e a' w'
theorem c_loop1 {c : Code} (h : St n D w0 F L (WR r P c Q)) : St n D w0 F L (WC r P (.loop c) Q) := by
  intro a w ha hw b k cs hro hb hr
  obtain ⟨e, a', w', hq, harr⟩ := h a w ha hw b k cs hro hb hr
  exact ⟨e, a', w', hq, .of_steps (.one (fenced_calm hb hr rfl) stepR_loop) harr⟩
theorem c_unroll {c : Code} (h : St n D w0 F L (WC r P c (Exit.then (WR r P c Q) Q))) : St n D w0 F L (WR r P c Q) := by
  intro a w ha hw b k cs hro hb hr
  obtain ⟨e, a₁, w₁, hq, harr⟩ := h a w ha hw b (.inLoop c :: k) cs hro hb hr
  cases e with
  | normal =>
    obtain ⟨e₂, a₂, w₂, hq₂, harr₂⟩ := hq b k cs hro hb hr
    exact ⟨e₂, a₂, w₂, hq₂, .of_steps (StepsIn.trans harr (.one (fenced_calm hb hr rfl) stepR_inLoop)) harr₂⟩
  | exit id => exact ⟨_, a₁, w₁, hq, .pass (x := .inLoop c) rfl (fun _ _ => .inl (by simp)) harr⟩
  | goto l => exact ⟨_, a₁, w₁, hq, .pass (x := .inLoop c) rfl (fun _ _ => .inl (by simp)) harr⟩
  | ret => exact ⟨_, a₁, w₁, hq, .pass (x := .inLoop c) rfl (fun _ _ => .inl (by simp)) harr⟩
  | panic ch => exact ⟨_, a₁, w₁, hq, .pass (x := .inLoop c) rfl (fun _ _ => .inl (by simp)) harr⟩
  | outgrown => exact ⟨_, a₁, w₁, hq, .pass (x := .inLoop c) rfl (fun _ _ => .inl (by simp)) harr⟩
/-- A callee that turns a part G of what the caller holds, and leaves the rest; the callee may be a value. -/
theorem o_call_frame {f : FuncId} {fn : Func} [TC P f fn] {x : Operand} {caps : Array Value} {xs : List Operand} {vs : List Value} {ats : Array TypeId} {G : List Ent} {Φ : Value → List Ent → Prop}
    (hx : ev F x = some (.func (.func f) #[] caps)) (hd : Nat.ble (d + 1) n = true) (hxs : Evs F xs vs) (hr : RemL L G L0)
    (hc : ∀ w, Rep w0 w (G ++ L0) → Calls P f (vs.toArray ++ caps) w fun e w' => ∃ v G', e = .returned v ∧ Φ v G' ∧ Rep w0 w' (G' ++ L0))
    (h : ∀ v G', Φ v G' → St n D w0 ((d, v) :: F) (G' ++ L0) (WL r P ops Q rest)) :
    St n D w0 F L (WL r P ops Q (⟨some d, .call ⟨.value x, xs.toArray, ats⟩, ty, pos, af, none⟩ :: rest)) :=
  o_call (x := x) (caps := caps) (Φ := fun w v w' => ∃ G', Φ v G' ∧ Rep w0 w' (G' ++ L0)) hx hd hxs (fun w hw => by
    refine (hc w (hw.perm hr)).mono ?_
    rintro e w' ⟨v, G', rfl, hΦ, hw'⟩
    exact ⟨v, rfl, G', hΦ, hw'⟩) (fun w v hw a w' hΦ ha => by
      obtain ⟨G', h1, h2⟩ := hΦ
      exact h v G' h1 a w' ha h2)
end
/-- What a callee has done to a block that it was handed, seen by its caller. -/
theorem Rep.turn1 {w0 w w' : World} {L0 N : List Ent} {b : Nat} {o o' : Obj} {fl : Bool} (h : Rep w0 w (⟨b, o, fl⟩ :: L0)) (hw : Rep w w' (N ++ [⟨b, o', false⟩])) (hN : ∀ x ∈ N, x.own = true) : Rep w0 w' (N ++ ⟨b, o', fl⟩ :: L0) :=
  h.turned (G := [⟨b, o', false⟩]) (.cons .hd .nil) hN (fun x hx => by
    simp at hx; subst hx
    exact (Array.getElem?_eq_some_iff.1 (h.ok ⟨b, o, fl⟩ List.mem_cons_self)).1) hw
/-- Entering a callee with all that the caller holds. -/
theorem f_enterF {P : Program} {n : Nat} {F : List (Nat × Value)} {L : List Ent} {f : FuncId} {fn : Func} {c : Code} {l : List Value} {w0 w : World} {R : Ending → World → Prop} (hf : P.funcs[f]? = some fn) (hb : fn.body = some c) (hn : fn.ntmps = n) (hl : Nat.ble l.length n = true)
    (hF : FArgs 0 l F) (hw : Rep w0 w L) (h : St n [] w0 F L (WC none P c (bodyPost P fn R))) : Calls P f l.toArray w R := by
  refine calls_of_FR (callsIn_of_wp hf hb trivial (h _ _ ⟨?_, rfl, fun t v ht => ?_⟩ hw))
  · have := Nat.le_of_ble_eq_true hl
    simp [hn]; omega
  · obtain ⟨_, h2⟩ := hF.lk t v ht
    simp only [Nat.sub_zero] at h2
    have hlt := (List.getElem?_eq_some_iff.1 h2).1
    rw [Array.getElem?_append_left (by simpa using hlt)]
    simpa using h2
theorem f_enterF0 {P : Program} {n : Nat} {L : List Ent} {f : FuncId} {fn : Func} {c : Code}  {w0 w : World} {R : Ending → World → Prop} (hf : P.funcs[f]? = some fn) (hb : fn.body = some c) (hn : fn.ntmps = n) (hl : Nat.ble 0 n = true) (hw : Rep w0 w L)
    (h : St n [] w0 [] L (WC none P c (bodyPost P fn R))) : Calls P f #[] w R := f_enterF (l := []) hf hb hn hl FArgs.nil hw h
theorem f_enterF1 {P : Program} {n : Nat} {L : List Ent} {f : FuncId} {fn : Func} {c : Code} {v0 : Value} {w0 w : World} {R : Ending → World → Prop} (hf : P.funcs[f]? = some fn) (hb : fn.body = some c) (hn : fn.ntmps = n) (hl : Nat.ble 1 n = true) (hw : Rep w0 w L)
    (h : St n [] w0 [(0, v0)] L (WC none P c (bodyPost P fn R))) : Calls P f #[v0] w R := f_enterF (l := [v0]) hf hb hn hl (.cons FArgs.nil) hw h
theorem f_enterF2 {P : Program} {n : Nat} {L : List Ent} {f : FuncId} {fn : Func} {c : Code} {v0 v1 : Value} {w0 w : World} {R : Ending → World → Prop} (hf : P.funcs[f]? = some fn) (hb : fn.body = some c) (hn : fn.ntmps = n) (hl : Nat.ble 2 n = true) (hw : Rep w0 w L)
    (h : St n [] w0 [(0, v0), (1, v1)] L (WC none P c (bodyPost P fn R))) : Calls P f #[v0, v1] w R := f_enterF (l := [v0, v1]) hf hb hn hl (.cons (.cons FArgs.nil)) hw h
theorem f_enterF3 {P : Program} {n : Nat} {L : List Ent} {f : FuncId} {fn : Func} {c : Code} {v0 v1 v2 : Value} {w0 w : World} {R : Ending → World → Prop} (hf : P.funcs[f]? = some fn) (hb : fn.body = some c) (hn : fn.ntmps = n) (hl : Nat.ble 3 n = true) (hw : Rep w0 w L)
    (h : St n [] w0 [(0, v0), (1, v1), (2, v2)] L (WC none P c (bodyPost P fn R))) : Calls P f #[v0, v1, v2] w R := f_enterF (l := [v0, v1, v2]) hf hb hn hl (.cons (.cons (.cons FArgs.nil))) hw h
theorem f_enterF4 {P : Program} {n : Nat} {L : List Ent} {f : FuncId} {fn : Func} {c : Code} {v0 v1 v2 v3 : Value} {w0 w : World} {R : Ending → World → Prop} (hf : P.funcs[f]? = some fn) (hb : fn.body = some c) (hn : fn.ntmps = n) (hl : Nat.ble 4 n = true) (hw : Rep w0 w L)
    (h : St n [] w0 [(0, v0), (1, v1), (2, v2), (3, v3)] L (WC none P c (bodyPost P fn R))) : Calls P f #[v0, v1, v2, v3] w R := f_enterF (l := [v0, v1, v2, v3]) hf hb hn hl (.cons (.cons (.cons (.cons FArgs.nil)))) hw h
theorem f_enterF5 {P : Program} {n : Nat} {L : List Ent} {f : FuncId} {fn : Func} {c : Code} {v0 v1 v2 v3 v4 : Value} {w0 w : World} {R : Ending → World → Prop} (hf : P.funcs[f]? = some fn) (hb : fn.body = some c) (hn : fn.ntmps = n) (hl : Nat.ble 5 n = true) (hw : Rep w0 w L)
    (h : St n [] w0 [(0, v0), (1, v1), (2, v2), (3, v3), (4, v4)] L (WC none P c (bodyPost P fn R))) : Calls P f #[v0, v1, v2, v3, v4] w R := f_enterF (l := [v0, v1, v2, v3, v4]) hf hb hn hl (.cons (.cons (.cons (.cons (.cons FArgs.nil))))) hw h
theorem f_enterF6 {P : Program} {n : Nat} {L : List Ent} {f : FuncId} {fn : Func} {c : Code} {v0 v1 v2 v3 v4 v5 : Value} {w0 w : World} {R : Ending → World → Prop} (hf : P.funcs[f]? = some fn) (hb : fn.body = some c) (hn : fn.ntmps = n) (hl : Nat.ble 6 n = true) (hw : Rep w0 w L)
    (h : St n [] w0 [(0, v0), (1, v1), (2, v2), (3, v3), (4, v4), (5, v5)] L (WC none P c (bodyPost P fn R))) : Calls P f #[v0, v1, v2, v3, v4, v5] w R := f_enterF (l := [v0, v1, v2, v3, v4, v5]) hf hb hn hl (.cons (.cons (.cons (.cons (.cons (.cons FArgs.nil)))))) hw h
end Go.Sx
