/- Callees that write blocks that were handed to them. -/
import Derived.Test.YteilhjglohahoaaSx9
namespace Go.Sx
open Go Go.RowKit
set_option linter.unusedVariables false

/-- The world as a callee gets it, with blocks that it was handed. -/
theorem Rep.given {w : World} {b : Nat} {o : Obj} (h : w.heap[b]? = some o) : Rep w w [⟨b, o, false⟩] :=
  ⟨rfl, rfl, rfl, Nat.le_refl _, fun x hx => (by simp at hx; subst hx; exact h), fun x hx ho => (by simp at hx; subst hx; cases ho), (by simp), fun _ _ _ => rfl⟩
theorem Rep.given2 {w : World} {b c : Nat} {o p : Obj} (h : w.heap[b]? = some o) (h' : w.heap[c]? = some p) (hne : b ≠ c) : Rep w w [⟨b, o, false⟩, ⟨c, p, false⟩] :=
  ⟨rfl, rfl, rfl, Nat.le_refl _, fun x hx => (by
    simp at hx
    rcases hx with rfl | rfl
    · exact h
    · exact h'), fun x hx ho => (by
    simp at hx
    rcases hx with rfl | rfl <;> cases ho), (by simp [hne]), fun _ _ _ => rfl⟩

/-- The entries of L, turned where G says so. -/
inductive Turn : List Ent → List Ent → List Ent → Prop
  | nil {L : List Ent} : Turn L [] L
  | cons {L L' L'' : List Ent} {b : Nat} {o o' : Obj} {G : List Ent} : Upd L b o o' L' → Turn L' G L'' → Turn L (⟨b, o', false⟩ :: G) L''
def setAll (w : World) : List Ent → World
  | [] => w
  | x :: G => setAll (setBlk w x.b x.o) G
theorem setAll_size : ∀ (G : List Ent) (w : World), (setAll w G).heap.size = w.heap.size
  | [], _ => rfl
  | x :: G, w => by rw [setAll, setAll_size G]; simp [setBlk]
theorem setAll_rest : ∀ (G : List Ent) (w : World), (setAll w G).os = w.os ∧ (setAll w G).tape = w.tape ∧ (setAll w G).output = w.output
  | [], _ => ⟨rfl, rfl, rfl⟩
  | x :: G, w => by rw [setAll]; exact setAll_rest G _
theorem setAll_far : ∀ (G : List Ent) (w : World) (k : Nat), (∀ x ∈ G, x.b ≠ k) → (setAll w G).heap[k]? = w.heap[k]?
  | [], _, _, _ => rfl
  | x :: G, w, k, h => by
    rw [setAll, setAll_far G _ k (fun y hy => h y (List.mem_cons_of_mem _ hy))]
    have := h x List.mem_cons_self
    simp [setBlk, this]
theorem setAll_at : ∀ (G : List Ent) (w : World), (G.map Ent.b).Nodup → ∀ x ∈ G, x.b < w.heap.size → (setAll w G).heap[x.b]? = some x.o
  | [], _, _, x, hx, _ => by cases hx
  | y :: G, w, hnd, x, hx, hlt => by
    simp only [List.map_cons, List.nodup_cons] at hnd
    rcases List.mem_cons.1 hx with rfl | hx
    · rw [setAll, setAll_far G _ _ (fun z hz e => hnd.1 (List.mem_map.2 ⟨z, hz, e⟩))]
      simp [setBlk, hlt]
    · rw [setAll]
      exact setAll_at G _ hnd.2 x hx (by simpa [setBlk] using hlt)
theorem Turn.rep {w0 : World} {L G L' : List Ent} (hT : Turn L G L') : ∀ {w : World}, Rep w0 w L → Rep w0 (setAll w G) L' := by
  induction hT with
  | nil => intro w h; exact h
  | cons hu _ ih => intro w h; exact ih (h.upd hu)
theorem Rep.turned {w0 w w' : World} {L G L' N : List Ent} (h : Rep w0 w L) (hT : Turn L G L') (hN : ∀ x ∈ N, x.own = true) (hG : ∀ x ∈ G, x.b < w.heap.size) (hw : Rep w w' (N ++ G)) : Rep w0 w' (N ++ L') := by
  have hnd := hw.nd
  rw [List.map_append, List.nodup_append] at hnd
  refine (hT.rep h).beside (N := N) ⟨?_, ?_, ?_, ?_, fun x hx => hw.ok x (List.mem_append_left _ hx), fun x hx ho => by rw [setAll_size]; exact hw.own x (List.mem_append_left _ hx) ho, hnd.1, fun b hb hx => ?_⟩ hN
  · rw [(setAll_rest G w).1]; exact hw.os
  · rw [(setAll_rest G w).2.1]; exact hw.tape
  · rw [(setAll_rest G w).2.2]; exact hw.output
  · rw [setAll_size]; exact hw.size
  · rw [setAll_size] at hb
    by_cases hbG : ∀ x ∈ G, x.b ≠ b
    · rw [setAll_far G w b hbG]
      exact hw.frame b hb fun x hxa => by
        rcases List.mem_append.1 hxa with hxa | hxa
        · exact hx x hxa
        · exact hbG x hxa
    · have : ∃ x ∈ G, x.b = b := Classical.byContradiction fun hc => hbG fun x hx e => hc ⟨x, hx, e⟩
      obtain ⟨x, hxG, rfl⟩ := this
      rw [setAll_at G w hnd.2.1 x hxG (hG x hxG)]
      exact hw.ok x (List.mem_append_right _ hxG)

section
variable {r : Option Nat} {P : Program} {n : Nat} {D : List Deferred} {w0 : World} {F : List (Nat × Value)} {L L' G : List Ent} {Q : Exit → Act → World → Prop} {ops : Array Oper}
variable {d : Tmp} {ty : TypeId} {pos : String} {af : Array Edge} {rest : List Oper}
/-- A callee that turns blocks that it was handed; the callee may be a value. -/
theorem o_call_turn {f : FuncId} {fn : Func} [TC P f fn] {x : Operand} {caps : Array Value} {xs : List Operand} {vs : List Value} {ats : Array TypeId} {v : Value}
    (hx : ev F x = some (.func (.func f) #[] caps)) (hd : Nat.ble (d + 1) n = true) (hxs : Evs F xs vs) (hT : Turn L G L')
    (hc : ∀ w, Rep w0 w L → Calls P f (vs.toArray ++ caps) w fun e w' => e = .returned v ∧ (∃ N, Rep w w' (N ++ G) ∧ ∀ x ∈ N, x.own = true) ∧ ∀ x ∈ G, x.b < w.heap.size)
    (h : St n D w0 ((d, v) :: F) L' (WL r P ops Q rest)) :
    St n D w0 F L (WL r P ops Q (⟨some d, .call ⟨.value x, xs.toArray, ats⟩, ty, pos, af, none⟩ :: rest)) :=
  o_call (x := x) (caps := caps) (Φ := fun w u w' => u = v ∧ (∃ N, Rep w w' (N ++ G) ∧ ∀ x ∈ N, x.own = true) ∧ ∀ x ∈ G, x.b < w.heap.size) hx hd hxs (fun w hw => by
    refine (hc w hw).mono ?_
    rintro e w' ⟨rfl, hB⟩
    exact ⟨v, rfl, rfl, hB⟩) (fun w u hw a w' hΦ ha => by
      obtain ⟨rfl, ⟨N, hN, ho⟩, hG⟩ := hΦ
      have := hw.turned hT ho hG hN
      exact h a w' ha ⟨this.os, this.tape, this.output, this.size, fun x hx => this.ok x (List.mem_append_right _ hx), fun x hx => this.own x (List.mem_append_right _ hx), by
        have hnd := this.nd
        rw [List.map_append, List.nodup_append] at hnd
        exact hnd.2.1, fun b hb hx => this.frame b hb fun y hy => by
          rcases List.mem_append.1 hy with hy | hy
          · intro e
            have h1 := hN.own y (List.mem_append_left _ hy) (ho y hy)
            have h2 := hw.size
            omega
          · exact hx y hy⟩)
end
end Go.Sx
