/- A range over a function: the loop's record, its rounds, its end. No program in sight. -/
import Derived.Test.YteilhjglohahoaaSx5
namespace Go.Sx
open Go Go.RowKit

section
variable {r : Option Nat} {P : Program} {n : Nat} {D : List Deferred} {w0 : World} {F : List (Nat × Value)} {L : List Ent} {Q : Exit → Act → World → Prop} {ops : Array Oper}
variable {d : Tmp} {ty : TypeId} {pos : String} {af : Array Edge} {rest : List Oper}

/-- The loop's record, by its state and the jump that is pending. -/
structure IsRec (Z : LoopState → Option Code → Obj) (tmps : Array Value) (ps : Array Tmp) (assign body : Code) : Prop where
  h : ∃ fid bd, ∀ s p, Z s p = .loop ⟨s, p, fid, tmps, ps, assign, body, bd⟩
def mark (bd : Nat) : Deferred := { target := .collected bd, args := #[] }
/-- What is owed when the function that was ranged over has ended. -/
def RG (P : Program) (Q : Exit → Act → World → Prop) (a : Act) (l : Nat) : Ending → World → Prop := rangePost (FR none) 0 P l Q a

theorem c_rangeFunc {g : Operand} {ps : Array Tmp} {assign body : Code} {f : FuncId} {fn : Func} {cb : Code} {n2 : Nat} {caps : List Value} {F2 : Nat → List (Nat × Value)}
    (hg : ev F g = some (.func (.func f) #[] caps.toArray)) (hT : TC P f fn) (hb : fn.body = some cb) (hn : fn.ntmps = n2) (hl : Nat.ble (caps.length + 1) n2 = true) (hF : ∀ l, FArgs 0 (.func (.yield l) #[] #[] :: caps) (F2 l))
    (h : ∀ (l bd : Nat) (Z : LoopState → Option Code → Obj) (a : Act), Fr n (mark bd :: D) F a → IsRec Z a.tmps ps assign body →
      St n2 [] w0 (F2 l) (⟨l, Z .ready none, true⟩ :: ⟨bd, .deferred (some []), true⟩ :: L) (WC none P cb (bodyPost P fn (RG P Q a l)))) :
    St n D w0 F L (WC none P (.rangeFunc g ps assign body) Q) := by
  intro a w ha hw
  refine wpIn_rangeFunc fun fid _ => ?_
  have hev := ha.eval hg
  obtain ⟨c0, hb0⟩ := TC.hb (P := P) (f := f)
  have hn' : ¬ fn.name = "runtime.NumGoroutine" := by simpa using TC.hn (P := P) (f := f)
  obtain ⟨W, hW⟩ : ∃ W, W = (w.alloc (.deferred (some []))).alloc (.loop { state := .ready, pending := none, fn := fid, tmps := a.tmps, params := ps, assign, body, defers := w.heap.size }) := ⟨_, rfl⟩
  have henter := run_enterLoop_outer (P := P) (w := w) fid a.tmps ps assign body
  rw [← hW] at henter
  refine ⟨w.heap.size + 1, [mark w.heap.size], W, { target := .fn (.func f) caps.toArray, args := #[.func (.yield (w.heap.size + 1)) #[] #[]] }, W, f, (.func (.yield (w.heap.size + 1)) #[] #[] :: caps).toArray, W, henter, ?_, fun _ _ => trivial, ?_, (fun h => (by cases h)), ?_⟩
  · simp only [resolve, hev, Deferred.ofValue]
    simp [Act.eval]
  · simp [invoke, callFunc, TC.hf (P := P) (f := f), hb0, hn']
  · refine callsIn_of_wp (TC.hf (P := P) (f := f)) hb trivial ?_
    have hr1 := (hw.alloc (.deferred (some []))).alloc (.loop { state := .ready, pending := none, fn := fid, tmps := a.tmps, params := ps, assign, body, defers := w.heap.size })
    rw [World.size_alloc, ← hW] at hr1
    refine h (w.heap.size + 1) w.heap.size (fun s p => .loop ⟨s, p, fid, a.tmps, ps, assign, body, w.heap.size⟩) { a with defers := [mark w.heap.size] ++ a.defers } ⟨ha.size, by simp [ha.defers], ha.get⟩ ⟨fid, w.heap.size, fun _ _ => rfl⟩ _ _ ⟨?_, rfl, fun t v ht => ?_⟩ hr1
    · have := Nat.le_of_ble_eq_true hl
      simp [hn]; omega
    · obtain ⟨_, h2⟩ := (hF _).lk t v ht
      simp only [Nat.sub_zero] at h2
      have hlt := (List.getElem?_eq_some_iff.1 h2).1
      rw [Array.getElem?_append_left (by simpa using hlt)]
      simpa using h2

theorem c_rangeFunc0 {g : Operand} {ps : Array Tmp} {assign body : Code} {f : FuncId} {fn : Func} {cb : Code} {n2 : Nat} 
    (hg : ev F g = some (.func (.func f) #[] #[])) (hT : TC P f fn) (hb : fn.body = some cb) (hn : fn.ntmps = n2) (hl : Nat.ble 1 n2 = true)
    (h : ∀ (l bd : Nat) (Z : LoopState → Option Code → Obj) (a : Act), Fr n (mark bd :: D) F a → IsRec Z a.tmps ps assign body →
      St n2 [] w0 [(0, .func (.yield l) #[] #[])] (⟨l, Z .ready none, true⟩ :: ⟨bd, .deferred (some []), true⟩ :: L) (WC none P cb (bodyPost P fn (RG P Q a l)))) :
    St n D w0 F L (WC none P (.rangeFunc g ps assign body) Q) := c_rangeFunc (caps := []) (F2 := fun l => [(0, .func (.yield l) #[] #[])]) hg hT hb hn hl (fun _ => .cons .nil) h
theorem c_rangeFunc1 {g : Operand} {ps : Array Tmp} {assign body : Code} {f : FuncId} {fn : Func} {cb : Code} {n2 : Nat} {c1 : Value} 
    (hg : ev F g = some (.func (.func f) #[] #[c1])) (hT : TC P f fn) (hb : fn.body = some cb) (hn : fn.ntmps = n2) (hl : Nat.ble 2 n2 = true)
    (h : ∀ (l bd : Nat) (Z : LoopState → Option Code → Obj) (a : Act), Fr n (mark bd :: D) F a → IsRec Z a.tmps ps assign body →
      St n2 [] w0 [(0, .func (.yield l) #[] #[]), (1, c1)] (⟨l, Z .ready none, true⟩ :: ⟨bd, .deferred (some []), true⟩ :: L) (WC none P cb (bodyPost P fn (RG P Q a l)))) :
    St n D w0 F L (WC none P (.rangeFunc g ps assign body) Q) := c_rangeFunc (caps := [c1]) (F2 := fun l => [(0, .func (.yield l) #[] #[]), (1, c1)]) hg hT hb hn hl (fun _ => .cons (.cons .nil)) h
theorem c_rangeFunc2 {g : Operand} {ps : Array Tmp} {assign body : Code} {f : FuncId} {fn : Func} {cb : Code} {n2 : Nat} {c1 c2 : Value} 
    (hg : ev F g = some (.func (.func f) #[] #[c1, c2])) (hT : TC P f fn) (hb : fn.body = some cb) (hn : fn.ntmps = n2) (hl : Nat.ble 3 n2 = true)
    (h : ∀ (l bd : Nat) (Z : LoopState → Option Code → Obj) (a : Act), Fr n (mark bd :: D) F a → IsRec Z a.tmps ps assign body →
      St n2 [] w0 [(0, .func (.yield l) #[] #[]), (1, c1), (2, c2)] (⟨l, Z .ready none, true⟩ :: ⟨bd, .deferred (some []), true⟩ :: L) (WC none P cb (bodyPost P fn (RG P Q a l)))) :
    St n D w0 F L (WC none P (.rangeFunc g ps assign body) Q) := c_rangeFunc (caps := [c1, c2]) (F2 := fun l => [(0, .func (.yield l) #[] #[]), (1, c1), (2, c2)]) hg hT hb hn hl (fun _ => .cons (.cons (.cons .nil))) h
theorem c_rangeFunc3 {g : Operand} {ps : Array Tmp} {assign body : Code} {f : FuncId} {fn : Func} {cb : Code} {n2 : Nat} {c1 c2 c3 : Value} 
    (hg : ev F g = some (.func (.func f) #[] #[c1, c2, c3])) (hT : TC P f fn) (hb : fn.body = some cb) (hn : fn.ntmps = n2) (hl : Nat.ble 4 n2 = true)
    (h : ∀ (l bd : Nat) (Z : LoopState → Option Code → Obj) (a : Act), Fr n (mark bd :: D) F a → IsRec Z a.tmps ps assign body →
      St n2 [] w0 [(0, .func (.yield l) #[] #[]), (1, c1), (2, c2), (3, c3)] (⟨l, Z .ready none, true⟩ :: ⟨bd, .deferred (some []), true⟩ :: L) (WC none P cb (bodyPost P fn (RG P Q a l)))) :
    St n D w0 F L (WC none P (.rangeFunc g ps assign body) Q) := c_rangeFunc (caps := [c1, c2, c3]) (F2 := fun l => [(0, .func (.yield l) #[] #[]), (1, c1), (2, c2), (3, c3)]) hg hT hb hn hl (fun _ => .cons (.cons (.cons (.cons .nil)))) h
theorem c_rangeFunc4 {g : Operand} {ps : Array Tmp} {assign body : Code} {f : FuncId} {fn : Func} {cb : Code} {n2 : Nat} {c1 c2 c3 c4 : Value} 
    (hg : ev F g = some (.func (.func f) #[] #[c1, c2, c3, c4])) (hT : TC P f fn) (hb : fn.body = some cb) (hn : fn.ntmps = n2) (hl : Nat.ble 5 n2 = true)
    (h : ∀ (l bd : Nat) (Z : LoopState → Option Code → Obj) (a : Act), Fr n (mark bd :: D) F a → IsRec Z a.tmps ps assign body →
      St n2 [] w0 [(0, .func (.yield l) #[] #[]), (1, c1), (2, c2), (3, c3), (4, c4)] (⟨l, Z .ready none, true⟩ :: ⟨bd, .deferred (some []), true⟩ :: L) (WC none P cb (bodyPost P fn (RG P Q a l)))) :
    St n D w0 F L (WC none P (.rangeFunc g ps assign body) Q) := c_rangeFunc (caps := [c1, c2, c3, c4]) (F2 := fun l => [(0, .func (.yield l) #[] #[]), (1, c1), (2, c2), (3, c3), (4, c4)]) hg hT hb hn hl (fun _ => .cons (.cons (.cons (.cons (.cons .nil))))) h
theorem c_rangeFunc5 {g : Operand} {ps : Array Tmp} {assign body : Code} {f : FuncId} {fn : Func} {cb : Code} {n2 : Nat} {c1 c2 c3 c4 c5 : Value} 
    (hg : ev F g = some (.func (.func f) #[] #[c1, c2, c3, c4, c5])) (hT : TC P f fn) (hb : fn.body = some cb) (hn : fn.ntmps = n2) (hl : Nat.ble 6 n2 = true)
    (h : ∀ (l bd : Nat) (Z : LoopState → Option Code → Obj) (a : Act), Fr n (mark bd :: D) F a → IsRec Z a.tmps ps assign body →
      St n2 [] w0 [(0, .func (.yield l) #[] #[]), (1, c1), (2, c2), (3, c3), (4, c4), (5, c5)] (⟨l, Z .ready none, true⟩ :: ⟨bd, .deferred (some []), true⟩ :: L) (WC none P cb (bodyPost P fn (RG P Q a l)))) :
    St n D w0 F L (WC none P (.rangeFunc g ps assign body) Q) := c_rangeFunc (caps := [c1, c2, c3, c4, c5]) (F2 := fun l => [(0, .func (.yield l) #[] #[]), (1, c1), (2, c2), (3, c3), (4, c4), (5, c5)]) hg hT hb hn hl (fun _ => .cons (.cons (.cons (.cons (.cons (.cons .nil)))))) h

/-- The function that was ranged over has ended; no jump is pending. -/
theorem e_range {n2 : Nat} {D2 : List Deferred} {F2 : List (Nat × Value)} {L2 L3 : List Ent} {a : Act} {l : Nat} {tmps : Array Value} {ps : Array Tmp} {assign body : Code} {Z : LoopState → Option Code → Obj} {s : LoopState} (ha : Fr n D F a) (hZ : IsRec Z tmps ps assign body)
    (hat : At L2 l (Z s none)) (hs : s ≠ .busy) (hu : Upd L2 l (Z s none) (Z .exhausted none) L3) (h : St n D w0 F L3 (Q .normal)) {v : Value} :
    St n2 D2 w0 F2 L2 (fun _ w => RG P Q a l (.returned v) w) := by
  obtain ⟨fid, bd, hZ⟩ := hZ
  rw [hZ, hZ] at hu
  rw [hZ] at hat
  intro a2 w ha2 hw
  exact ⟨none, w.putObj l _, run_endLoop (hw.at hat) hs, h a _ ha (hw.upd hu)⟩
theorem e_rangeJ {n2 : Nat} {D2 : List Deferred} {F2 : List (Nat × Value)} {L2 L3 : List Ent} {a : Act} {l : Nat} {tmps : Array Value} {ps : Array Tmp} {assign body : Code} {Z : LoopState → Option Code → Obj} {s : LoopState} {c : Code} (ha : Fr n D F a) (hZ : IsRec Z tmps ps assign body)
    (hat : At L2 l (Z s (some c))) (hs : s ≠ .busy) (hu : Upd L2 l (Z s (some c)) (Z .exhausted (some c)) L3) (h : St n D w0 F L3 (WC none P c Q)) {v : Value} :
    St n2 D2 w0 F2 L2 (fun _ w => RG P Q a l (.returned v) w) := by
  obtain ⟨fid, bd, hZ⟩ := hZ
  rw [hZ, hZ] at hu
  rw [hZ] at hat
  intro a2 w ha2 hw
  exact ⟨some c, w.putObj l _, run_endLoop (hw.at hat) hs, h a _ ha (hw.upd hu)⟩
/-- The iterator's end. -/
theorem r_iter {fn : Func} {R : Ending → World → Prop} (hr : fn.results = #[]) (h : St n [] w0 F L (fun _ w => R (.returned (.tuple #[])) w)) : St n [] w0 F L (bodyPost P fn R .ret) :=
  fun a w ha hw => ⟨ha.defers, _, res0 hr a w ha hw, h a w ha hw⟩
theorem r_iter' {fn : Func} {R : Ending → World → Prop} (hr : fn.results = #[]) (h : St n [] w0 F L (fun _ w => R (.returned (.tuple #[])) w)) : St n [] w0 F L (bodyPost P fn R .normal) :=
  fun a w ha hw => ⟨ha.defers, _, res0 hr a w ha hw, h a w ha hw⟩

/-! ## a call of yield -/
/-- What is owed at a round's end: the iterator goes on. -/
def YR (r : Option Nat) (P : Program) (ops : Array Oper) (Q : Exit → Act → World → Prop) (rest : List Oper) (a : Act) (d : Tmp) : Ending → World → Prop
  | .returned v, w => WL r P ops Q rest (a.put (some d) v) w
  | .panicked chain, w => Q (.panic chain) a w
  | .outgrown, _ => LetsOut Q
def beginK (P : Program) (l : Nat) (body : Code) (R : Ending → World → Prop) : Act → World → Prop :=
  fun a₁ w₁ => ∃ w₂, (Instr.beginRound l).run P w₁ = .ok () w₂ ∧ body.wpIn (FR (some l)) 0 P (roundPost P l R) a₁ w₂
def noExit : Exit → Act → World → Prop := fun _ _ _ => False

/-- yield's arguments in the round's parameters. -/
inductive RPar : List Nat → List Value → List (Nat × Value) → List (Nat × Value) → Prop
  | nil {F : List (Nat × Value)} : RPar [] [] F F
  | cons {p : Nat} {v : Value} {ps : List Nat} {vs : List Value} {F G : List (Nat × Value)} : RPar ps vs ((p, v) :: F) G → RPar (p :: ps) (v :: vs) F G
theorem RPar.fr {n : Nat} {ps : List Nat} {vs : List Value} {F G : List (Nat × Value)} (h : RPar ps vs F G) : ∀ (tmps : Array Value), (∀ p ∈ ps, p < n) → Fr n [] F ⟨tmps, []⟩ →
    Fr n [] G ⟨((ps.zip vs).foldl (fun tmps (x : Nat × Value) => tmps.setIfInBounds x.1 x.2) tmps), []⟩ := by
  induction h with
  | nil => intro tmps _ hf; simpa using hf
  | @cons p v ps vs F G _ ih =>
    intro tmps hp hf
    have := ih (tmps.setIfInBounds p v) (fun q hq => hp q (List.mem_cons_of_mem _ hq)) (hf.put (hp p List.mem_cons_self) v)
    simpa using this

theorem zip_fold (ps : List Nat) (vs : List Value) (tmps : Array Value) : (ps.toArray.zip vs.toArray).foldl (fun tmps (x : Nat × Value) => tmps.setIfInBounds x.1 x.2) tmps = (ps.zip vs).foldl (fun tmps (x : Nat × Value) => tmps.setIfInBounds x.1 x.2) tmps := by
  rw [← Array.foldl_toList]; simp
theorem o_yield {n1 : Nat} {F1 G : List (Nat × Value)} {D1 : List Deferred} {x : Operand} {l : Nat} {ps : List Nat} {assign body : Code} {Z : LoopState → Option Code → Obj} {a1 : Act} {xs : List Operand} {vs : List Value} {ats : Array TypeId}
    (hx : ev F x = some (.func (.yield l) #[] #[])) (hxs : Evs F xs vs) (hZ : IsRec Z a1.tmps ps.toArray assign body) (ha1 : Fr n1 D1 F1 a1) (hat : At L l (Z .ready none)) (hlen : vs.length = ps.length)
    (hps : ps.all (fun p => Nat.ble (p + 1) n1) = true) (hG : RPar ps vs F1 G)
    (h : ∀ a, Fr n D F a → St n1 [] w0 G L (WC (some l) P assign (Exit.then (beginK P l body (YR none P ops Q rest a d)) noExit))) :
    St n D w0 F L (WL none P ops Q (⟨some d, .call ⟨.value x, xs.toArray, ats⟩, ty, pos, af, none⟩ :: rest)) :=
  o_plain rfl rfl fun a w ha hw => by
    obtain ⟨fid, bd, hZ⟩ := hZ
    rw [hZ] at hat
    have hrun : (execOp a.eval ⟨some d, .call ⟨.value x, xs.toArray, ats⟩, ty, pos, af, none⟩).run P w =
        .ok (.round l fid ((ps.toArray.zip vs.toArray).foldl (fun tmps (x : Nat × Value) => tmps.setIfInBounds x.1 x.2) a1.tmps) assign body) w := by
      have hev := ha.eval hx
      have hy := run_yield (P := P) (args := vs.toArray) (hw.at hat) (by simpa using hlen)
      have hxs' := hxs.map ha
      simp only [execOp, resolve, Deferred.ofValue, hev, invoke, Sem.run_bind, Sem.run_pure, Result.andThen_ok]
      have e1 : (#[] : Array Value) ++ xs.toArray.map a.eval = vs.toArray := by rw [← hxs']; simp
      rw [e1, hy]
    rw [hrun]
    refine ⟨(fun h => (by cases h)), ?_⟩
    have hroundin : RoundIn (FR none) 0 P l fid ((ps.toArray.zip vs.toArray).foldl (fun tmps (x : Nat × Value) => tmps.setIfInBounds x.1 x.2) a1.tmps) assign body w (YR none P ops Q rest a d) := by
      refine roundIn_of_wpIn trivial ?_
      rw [zip_fold]
      refine h a ha _ w (hG.fr a1.tmps ?_ ⟨ha1.size, rfl, ha1.get⟩) hw
      intro p hp
      have := List.all_eq_true.1 hps p hp
      exact Nat.le_of_ble_eq_true this
    refine hroundin.mono ?_
    intro e w' he
    cases e <;> exact he

theorem e_begin {l : Nat} {body : Code} {R : Ending → World → Prop} {tmps : Array Value} {ps : Array Tmp} {assign body' : Code} {Z : LoopState → Option Code → Obj} {L' : List Ent} (hZ : IsRec Z tmps ps assign body')
    (hat : At L l (Z .ready none)) (hu : Upd L l (Z .ready none) (Z .busy none) L')
    (h : St n D w0 F L' (WC (some l) P body (roundPost P l R))) : St n D w0 F L (beginK P l body R) := by
  obtain ⟨fid, bd, hZ⟩ := hZ
  rw [hZ, hZ] at hu
  rw [hZ] at hat
  exact fun a w ha hw => ⟨_, run_beginRound (hw.at hat) rfl, h a _ ha (hw.upd hu)⟩

section
variable {n2 : Nat} {D2 : List Deferred} {F2 : List (Nat × Value)} {l : Nat} {tmps : Array Value} {ps : Array Tmp} {assign body : Code} {Z : LoopState → Option Code → Obj} {L' : List Ent} {a2 : Act}
theorem e_round (ha2 : Fr n2 D2 F2 a2) (hd : Nat.ble (d + 1) n2 = true) (hZ : IsRec Z tmps ps assign body) (hat : At L l (Z .busy none)) (hu : Upd L l (Z .busy none) (Z .ready none) L')
    (h : St n2 D2 w0 ((d, .bool true) :: F2) L' (WL none P ops Q rest)) : St n D w0 F L (roundPost P l (YR none P ops Q rest a2 d) .normal) := by
  obtain ⟨fid, bd, hZ⟩ := hZ
  rw [hZ, hZ] at hu
  rw [hZ] at hat
  exact fun _ w _ hw => ⟨_, _, run_endRound none (hw.at hat), h _ _ (ha2.put (Nat.le_of_ble_eq_true hd) _) (hw.upd hu)⟩
theorem e_round_ret (ha2 : Fr n2 D2 F2 a2) (hd : Nat.ble (d + 1) n2 = true) (hZ : IsRec Z tmps ps assign body) (hat : At L l (Z .busy none)) (hu : Upd L l (Z .busy none) (Z .done (some .ret)) L')
    (h : St n2 D2 w0 ((d, .bool false) :: F2) L' (WL none P ops Q rest)) : St n D w0 F L (roundPost P l (YR none P ops Q rest a2 d) .ret) := by
  obtain ⟨fid, bd, hZ⟩ := hZ
  rw [hZ, hZ] at hu
  rw [hZ] at hat
  exact fun _ w _ hw => ⟨_, _, run_endRound (some .ret) (hw.at hat), h _ _ (ha2.put (Nat.le_of_ble_eq_true hd) _) (hw.upd hu)⟩
theorem e_round_exit {id : Nat} (ha2 : Fr n2 D2 F2 a2) (hd : Nat.ble (d + 1) n2 = true) (hZ : IsRec Z tmps ps assign body) (hat : At L l (Z .busy none)) (hu : Upd L l (Z .busy none) (Z .done (some (.exit id))) L')
    (h : St n2 D2 w0 ((d, .bool false) :: F2) L' (WL none P ops Q rest)) : St n D w0 F L (roundPost P l (YR none P ops Q rest a2 d) (.exit id)) := by
  obtain ⟨fid, bd, hZ⟩ := hZ
  rw [hZ, hZ] at hu
  rw [hZ] at hat
  exact fun _ w _ hw => ⟨_, _, run_endRound (some (.exit id)) (hw.at hat), h _ _ (ha2.put (Nat.le_of_ble_eq_true hd) _) (hw.upd hu)⟩
end

/-! ## a function that holds a range over a function -/
def BM (P : Program) (fn : Func) (R : Ending → World → Prop) : Exit → Act → World → Prop := bodyPostM (FR none) 0 P fn R
theorem f_enterM {f : FuncId} {fn : Func} {c : Code} {l : List Value} {w : World} {R : Ending → World → Prop} (hf : P.funcs[f]? = some fn) (hb : fn.body = some c) (hn : fn.ntmps = n) (hl : Nat.ble l.length n = true)
    (hF : FArgs 0 l F) (hw : Rep w w L) (h : St n [] w F L (WC none P c (BM P fn R))) : Calls P f l.toArray w R := by
  refine calls_of_FR (callsIn_of_wp_marks hf hb trivial (h _ _ ⟨?_, rfl, fun t v ht => ?_⟩ hw))
  · have := Nat.le_of_ble_eq_true hl
    simp [hn]; omega
  · obtain ⟨_, h2⟩ := hF.lk t v ht
    simp only [Nat.sub_zero] at h2
    have hlt := (List.getElem?_eq_some_iff.1 h2).1
    rw [Array.getElem?_append_left (by simpa using hlt)]
    simpa using h2
section
variable {v0 v1 v2 v3 v4 : Value} {f : FuncId} {fn : Func} {c : Code} {w : World} {R : Ending → World → Prop} (hf : P.funcs[f]? = some fn) (hb : fn.body = some c) (hn : fn.ntmps = n)
include hf hb hn
theorem f_enterM1 (hl : Nat.ble 1 n = true) (hw : Rep w w L) (h : St n [] w [(0, v0)] L (WC none P c (BM P fn R))) : Calls P f #[v0] w R := f_enterM (l := [v0]) hf hb hn hl (.cons .nil) hw h
theorem f_enterM2 (hl : Nat.ble 2 n = true) (hw : Rep w w L) (h : St n [] w [(0, v0), (1, v1)] L (WC none P c (BM P fn R))) : Calls P f #[v0, v1] w R := f_enterM (l := [v0, v1]) hf hb hn hl (.cons (.cons .nil)) hw h
theorem f_enterM3 (hl : Nat.ble 3 n = true) (hw : Rep w w L) (h : St n [] w [(0, v0), (1, v1), (2, v2)] L (WC none P c (BM P fn R))) : Calls P f #[v0, v1, v2] w R := f_enterM (l := [v0, v1, v2]) hf hb hn hl (.cons (.cons (.cons .nil))) hw h
theorem f_enterM4 (hl : Nat.ble 4 n = true) (hw : Rep w w L) (h : St n [] w [(0, v0), (1, v1), (2, v2), (3, v3)] L (WC none P c (BM P fn R))) : Calls P f #[v0, v1, v2, v3] w R := f_enterM (l := [v0, v1, v2, v3]) hf hb hn hl (.cons (.cons (.cons (.cons .nil)))) hw h
end
variable {fn : Func} {R : Ending → World → Prop}
theorem r_M0 {v : Value} (hres : ∀ a w, Fr n [] F a → Rep w0 w L → (results fn a.tmps).run P w = .ok v w) (h : ∀ w, Rep w0 w L → R (.returned v) w) : St n [] w0 F L (BM P fn R .ret) :=
  fun a w ha hw => by
    show LeavesInM (FR none) 0 P fn a.tmps R a.defers .returning w
    rw [ha.defers]
    exact ⟨v, hres a w ha hw, h w hw⟩
theorem r_M1 {v : Value} {bd : Nat} {L' : List Ent} (hat : At L bd (.deferred (some []))) (hu : Upd L bd (.deferred (some [])) (.deferred none) L') (hres : ∀ a w, Fr n [mark bd] F a → Rep w0 w L' → (results fn a.tmps).run P w = .ok v w)
    (h : ∀ w, Rep w0 w L' → R (.returned v) w) : St n [mark bd] w0 F L (BM P fn R .ret) :=
  fun a w ha hw => by
    show LeavesInM (FR none) 0 P fn a.tmps R a.defers .returning w
    rw [ha.defers]
    have hw' : Rep w0 (w.putObj bd (.deferred none)) L' := hw.upd hu
    exact ⟨by simp, .inl ⟨bd, w.putObj bd (.deferred none), rfl, run_takeDeferred (hw.at hat), v, hres a _ ha hw', h _ hw'⟩⟩
end
end Go.Sx
