/- Regions that draw their order of evaluation: one walk in the order of the text serves every order, where the operations only read, call what only reads and lays blocks of its own, or lay a new block; what must come behind all of these, one after the other, is walked as it stands. -/
import Derived.Test.YtcocnhfbdcapbaaSx7
import Derived.OrdersIn
import Derived.StillTail
set_option linter.unusedVariables false
namespace Go.Sx
open Go Go.RowKit

/-- Two contracts on one call speak of one end. -/
theorem calls_agree {P : Program} {f : FuncId} {args : Array Value} {w : World} {v v' : Value} {R R' : World → Prop} (h : Calls P f args w fun e w' => e = .returned v ∧ R w')
    (h' : Calls P f args w fun e w' => e = .returned v' ∧ R' w') (hi : P.inits.idxOf? f = none) : v = v' := by
  have g : Calls P f args w fun | .returned u, w' => u = v ∧ R w' | _, _ => False := h.mono fun e w' ⟨he, q⟩ => by subst he; exact ⟨rfl, q⟩
  have g' : Calls P f args w fun | .returned u, w' => u = v' ∧ R' w' | _, _ => False := h'.mono fun e w' ⟨he, q⟩ => by subst he; exact ⟨rfl, q⟩
  obtain ⟨n, u, w1, e1, r1⟩ := g.done (R := fun u w' => u = v ∧ R w') hi
  obtain ⟨m, u', w2, e2, r2⟩ := g'.done (R := fun u w' => u = v' ∧ R' w') hi
  have a := runN_ended e1 m
  have b := runN_ended e2 n
  rw [Nat.add_comm, a] at b
  injection b with ho hw
  injection ho with hv
  rw [← r1.1, ← r2.1, hv]

/-- The operations that lay a new block. -/
def lays : Op → Bool
  | .alloc _ => true
  | .box _ _ => true
  | .buildSlice _ _ _ => true
  | _ => false
def isSt : Op → Bool
  | .store _ _ _ => true
  | _ => false
/-- The operations that do not look at the world. -/
def isFr : Op → Bool
  | .move _ => true
  | .assign _ => true
  | .pick _ _ _ => true
  | .unOp _ _ _ => true
  | .binOp _ _ _ _ _ => true
  | .extract _ _ => true
  | .field _ _ _ => true
  | .index _ _ _ => true
  | .fieldAddr _ _ _ => true
  | .indexAddr _ _ _ => true
  | .build _ _ => true
  | _ => false
theorem isSt_fr {op : Op} (h : isSt op = true) : isFr op = false := by cases op <;> simp_all [isSt, isFr]
/-- Two operations that need no order but that of their slots. -/
def compat (x y : Oper) : Bool := isFr x.op || isFr y.op || (!isSt x.op && !isSt y.op)

/-- What an operation that only reads comes to. -/
def Comes1 (P : Program) (w : World) (v : Value) : Result Next → Prop
  | .ok (.value u) w' => w' = w ∧ u = v
  | .ok .skip w' => w' = w ∧ v = undef
  | .ok (.enter f args) w' => w' = w ∧ P.inits.idxOf? f = none ∧ Calls P f args w (fun e w'' => e = .returned v ∧ Below w.heap.size w w'')
  | _ => False

def upd (N : Nat → Option Obj) (i : Nat) (ob : Option Obj) : Nat → Option Obj := fun j => if j = i then ob else N j
theorem upd_comm {N : Nat → Option Obj} {i j : Nat} {x y : Option Obj} (h : i ≠ j) : upd (upd N i x) j y = upd (upd N j y) i x := by
  funext k
  simp only [upd]
  by_cases h1 : k = j
  · by_cases h2 : k = i
    · omega
    · simp [h1, show ¬ j = i from by omega]
  · simp [h1]
theorem upd_same {N : Nat → Option Obj} {i : Nat} {x : Option Obj} : upd N i x i = x := by simp [upd]
theorem upd_other {N : Nat → Option Obj} {i j : Nat} {x : Option Obj} (h : j ≠ i) : upd N i x j = N j := by simp [upd, h]

/-- The world has the blocks of L, and the new ones, where the prophecy says. -/
structure RepN (w0 w : World) (γ : Nat → Nat) (N : Nat → Option Obj) (L : List Ent) : Prop where
  rep : Rep w0 w L
  ok : ∀ i o, N i = some o → w.heap[γ i]? = some o
  new : ∀ i, N i ≠ none → w0.heap.size ≤ γ i
  far : ∀ i, N i ≠ none → ∀ x ∈ L, x.b ≠ γ i
  nd : ∀ i j, N i ≠ none → N j ≠ none → i ≠ j → γ i ≠ γ j

section
variable {P : Program} {ops : Array Oper} {md : Region.Mode} {w0 : World}

theorem RepN.grow {w w' : World} {γ : Nat → Nat} {N : Nat → Option Obj} {L : List Ent} (h : RepN w0 w γ N L) (hb : Below w.heap.size w w') : RepN w0 w' γ N L :=
  ⟨h.rep.grow hb, fun i o hi => by
    have h1 := h.ok i o hi
    rw [hb.block _ (Array.getElem?_eq_some_iff.1 h1).1]; exact h1, h.new, h.far, h.nd⟩
theorem RepN.congr {w : World} {γ δ : Nat → Nat} {N : Nat → Option Obj} {L : List Ent} (h : RepN w0 w γ N L) (he : ∀ i, N i ≠ none → δ i = γ i) : RepN w0 w δ N L :=
  ⟨h.rep, fun i o hi => by rw [he i (by rw [hi]; simp)]; exact h.ok i o hi, fun i hi => by rw [he i hi]; exact h.new i hi, fun i hi => by rw [he i hi]; exact h.far i hi,
    fun i j hi hj hij => by rw [he i hi, he j hj]; exact h.nd i j hi hj hij⟩
theorem RepN.lt {w : World} {γ : Nat → Nat} {N : Nat → Option Obj} {L : List Ent} (h : RepN w0 w γ N L) {i : Nat} (hi : N i ≠ none) : γ i < w.heap.size := by
  cases ho : N i with
  | none => exact absurd ho hi
  | some o => exact (Array.getElem?_eq_some_iff.1 (h.ok i o ho)).1
theorem RepN.alloc {w : World} {γ : Nat → Nat} {N : Nat → Option Obj} {L : List Ent} {i : Nat} {x : Obj} (h : RepN w0 w γ N L) (hi : N i = none) (hg : γ i = w.heap.size) : RepN w0 (w.alloc x) γ (upd N i (some x)) L := by
  have hnew : (w.alloc x).heap[w.heap.size]? = some x := by show (w.heap.push x)[w.heap.size]? = some x; simp
  have hold : ∀ k, k < w.heap.size → (w.alloc x).heap[k]? = w.heap[k]? := fun k hk => Below.heap_alloc w x k hk
  have hN : ∀ k, k ≠ i → upd N i (some x) k = N k := fun k hk => by simp [upd, hk]
  refine ⟨h.rep.grow ⟨rfl, rfl, rfl, by simp, fun k hk => Below.heap_alloc w x k hk⟩, fun k o hk => ?_, fun k hk => ?_, fun k hk y hy => ?_, fun j k hj hk hjk => ?_⟩
  · by_cases e : k = i
    · subst e; simp [upd] at hk; subst hk; rw [hg]; exact hnew
    · rw [hN k e] at hk
      rw [hold _ (h.lt (by rw [hk]; simp))]; exact h.ok k o hk
  · by_cases e : k = i
    · subst e; rw [hg]; exact h.rep.size
    · rw [hN k e] at hk; exact h.new k hk
  · by_cases e : k = i
    · subst e; rw [hg]; have := h.rep.lt hy; omega
    · rw [hN k e] at hk; exact h.far k hk y hy
  · by_cases e : j = i
    · subst e
      by_cases e2 : k = j
      · omega
      · rw [hN k e2] at hk; rw [hg]; have := h.lt hk; omega
    · rw [hN j e] at hj
      by_cases e2 : k = i
      · subst e2; rw [hg]; have := h.lt hj; omega
      · rw [hN k e2] at hk; exact h.nd j k hj hk hjk
/-- One of the new blocks turned. -/
theorem RepN.turnN {w w' : World} {γ : Nat → Nat} {N : Nat → Option Obj} {L : List Ent} (h : RepN w0 w γ N L) {j : Nat} {x y : Obj} (hj : N j = some x) (h1 : w'.os = w.os) (h2 : w'.tape = w.tape) (h3 : w'.output = w.output)
    (h4 : w'.heap.size = w.heap.size) (h5 : w'.heap[γ j]? = some y) (h6 : ∀ k : Nat, k ≠ γ j → w'.heap[k]? = w.heap[k]?) : RepN w0 w' γ (upd N j (some y)) L := by
  have hjn : N j ≠ none := by rw [hj]; simp
  have hiff : ∀ i, upd N j (some y) i ≠ none → N i ≠ none := fun i hi => by
    by_cases e : i = j
    · subst e; exact hjn
    · rwa [upd_other e] at hi
  refine ⟨⟨h1.trans h.rep.os, h2.trans h.rep.tape, h3.trans h.rep.output, by rw [h4]; exact h.rep.size, fun x hx => by rw [h6 _ (h.far j hjn x hx)]; exact h.rep.ok x hx, h.rep.own, h.rep.nd,
    fun b hb hx => by rw [h6 _ (fun e => by have := h.new j hjn; omega)]; exact h.rep.frame b hb hx⟩, fun i o hi => ?_, fun i hi => h.new i (hiff i hi), fun i hi => h.far i (hiff i hi), fun i k hi hk => h.nd i k (hiff i hi) (hiff k hk)⟩
  by_cases e : i = j
  · subst e; rw [upd_same] at hi; injection hi with hi; subst hi; exact h5
  · rw [upd_other e] at hi
    rw [h6 _ (h.nd i j (by rw [hi]; simp) hjn e)]; exact h.ok i o hi
/-- One of the known blocks turned. -/
theorem RepN.turnL {w w' : World} {γ : Nat → Nat} {N : Nat → Option Obj} {L L' : List Ent} (h : RepN w0 w γ N L) {b : Nat} {x y : Obj} (hu : Upd L b x y L') (h1 : w'.os = w.os) (h2 : w'.tape = w.tape) (h3 : w'.output = w.output)
    (h4 : w'.heap.size = w.heap.size) (h5 : w'.heap[b]? = some y) (h6 : ∀ k : Nat, k ≠ b → w'.heap[k]? = w.heap[k]?) : RepN w0 w' γ N L' := by
  obtain ⟨f, hf⟩ := hu.at.mem
  refine ⟨h.rep.turn hu h1 h2 h3 h4 h5 h6, fun i o hi => ?_, h.new, fun i hi x hx => ?_, h.nd⟩
  · rw [h6 _ (fun e => h.far i (by rw [hi]; simp) _ hf e.symm)]; exact h.ok i o hi
  · have : x.b ∈ L'.map Ent.b := List.mem_map.2 ⟨x, hx, rfl⟩
    rw [hu.keys] at this
    obtain ⟨y', hy, e⟩ := List.mem_map.1 this
    rw [← e]; exact h.far i hi y' hy

/-- What an operation does to what is known. -/
def YG (P : Program) (ops : Array Oper) (w0 : World) (γ : Nat → Nat) (i : Nat) (o : Oper) (v : Value) (a : Act) (N : Nat → Option Obj) (L : List Ent) (N' : Nat → Option Obj) (L' : List Ent) : Prop :=
  (Region.wanted o (yielded ops a.tmps) = true ∧ nd o.op = true ∧
    ((isFr o.op = true ∧ N' = N ∧ L' = L ∧ ∀ w, (execOp a.eval o).run P w = .ok (.value v) w) ∨
     (isFr o.op = false ∧ isSt o.op = false ∧ lays o.op = false ∧ N' = N ∧ L' = L ∧ ∀ w, Rep w0 w L → Comes1 P w v ((execOp a.eval o).run P w)) ∨
     (isFr o.op = false ∧ isSt o.op = false ∧ lays o.op = true ∧ ∃ x, N' = upd N i (some x) ∧ L' = L ∧ ∀ w, Rep w0 w L → w.heap.size = γ i → (execOp a.eval o).run P w = .ok (.value v) (w.alloc x)) ∨
     (isSt o.op = true ∧ v = undef ∧ (∀ j, N' j = none ↔ N j = none) ∧ L'.map (fun e => (e.b, e.own)) = L.map (fun e => (e.b, e.own)) ∧
       ∀ w, RepN w0 w γ N L → ∃ w', (execOp a.eval o).run P w = .ok .skip w' ∧ RepN w0 w' γ N' L'))) ∨
  (Region.wanted o (yielded ops a.tmps) = false ∧ v = undef ∧ N' = N ∧ L' = L)

theorem YG.off {γ : Nat → Nat} {i : Nat} {o : Oper} {v : Value} {a : Act} {N N' : Nat → Option Obj} {L L' : List Ent} (h : YG P ops w0 γ i o v a N L N' L') {j : Nat} (hj : j ≠ i) (hn : N j = none) : N' j = none := by
  rcases h with ⟨_, _, ⟨_, rfl, _⟩ | ⟨_, _, _, rfl, _⟩ | ⟨_, _, _, x, rfl, _⟩ | ⟨_, _, hs, _⟩⟩ | ⟨_, _, rfl, _⟩
  · exact hn
  · exact hn
  · rw [upd_other hj]; exact hn
  · exact (hs j).2 hn
  · exact hn
theorem YG.on {γ : Nat → Nat} {i : Nat} {o : Oper} {v : Value} {a : Act} {N N' : Nat → Option Obj} {L L' : List Ent} (h : YG P ops w0 γ i o v a N L N' L') {j : Nat} (hn : N j ≠ none) : N' j ≠ none := by
  rcases h with ⟨_, _, ⟨_, rfl, _⟩ | ⟨_, _, _, rfl, _⟩ | ⟨_, _, _, x, rfl, _⟩ | ⟨_, _, hs, _⟩⟩ | ⟨_, _, rfl, _⟩
  · exact hn
  · exact hn
  · by_cases e : j = i
    · subst e; rw [upd_same]; simp
    · rw [upd_other e]; exact hn
  · exact fun h => hn ((hs j).1 h)
  · exact hn

theorem YG.of_same {γ : Nat → Nat} {i : Nat} {o : Oper} {v : Value} {a a' : Act} {N N' : Nat → Option Obj} {L L' : List Ent} (hy : YG P ops w0 γ i o v a N L N' L') (he : execOp a'.eval o = execOp a.eval o)
    (hw : Region.wanted o (yielded ops a'.tmps) = Region.wanted o (yielded ops a.tmps)) : YG P ops w0 γ i o v a' N L N' L' := by
  unfold YG at *
  rw [he, hw]
  exact hy

theorem YG.swap {γ : Nat → Nat} {i j : Nat} {oi oj : Oper} {v u : Value} {a : Act} {N N1 N2 : Nat → Option Obj} {L L1 L2 : List Ent} (hij : j ≠ i) (hc : compat oi oj = true)
    (hy : YG P ops w0 γ i oi v a N L N1 L1) (hu : YG P ops w0 γ j oj u a N1 L1 N2 L2) : ∃ N1' L1', YG P ops w0 γ j oj u a N L N1' L1' ∧ YG P ops w0 γ i oi v a N1' L1' N2 L2 := by
  have hu0 := hu
  have hy0 := hy
  rcases hy with ⟨hw, hnd, ⟨hf, rfl, rfl, hr⟩ | hrest⟩ | ⟨hw, hv, rfl, rfl⟩
  · exact ⟨N2, L2, hu, .inl ⟨hw, hnd, .inl ⟨hf, rfl, rfl, hr⟩⟩⟩
  · rcases hu with ⟨hwj, hndj, ⟨hfj, rfl, rfl, hrj⟩ | hrestj⟩ | ⟨hwj, hvj, rfl, rfl⟩
    · exact ⟨N, L, .inl ⟨hwj, hndj, .inl ⟨hfj, rfl, rfl, hrj⟩⟩, hy0⟩
    · have hfi : isFr oi.op = false := by
        rcases hrest with ⟨h, _⟩ | ⟨h, _⟩ | ⟨h, _⟩
        · exact h
        · exact h
        · exact isSt_fr h
      have hfj : isFr oj.op = false := by
        rcases hrestj with ⟨h, _⟩ | ⟨h, _⟩ | ⟨h, _⟩
        · exact h
        · exact h
        · exact isSt_fr h
      simp only [compat, hfi, hfj, Bool.false_or, Bool.and_eq_true, Bool.not_eq_true'] at hc
      rcases hrest with ⟨h1, h2, h3, rfl, rfl, hr⟩ | ⟨h1, h2, h3, x, rfl, rfl, hr⟩ | ⟨h, _⟩
      · rcases hrestj with ⟨g1, g2, g3, rfl, rfl, hrj⟩ | ⟨g1, g2, g3, y, rfl, rfl, hrj⟩ | ⟨h, _⟩
        · exact ⟨_, _, hu0, hy0⟩
        · exact ⟨_, _, hu0, .inl ⟨hw, hnd, .inr (.inl ⟨h1, h2, h3, rfl, rfl, hr⟩)⟩⟩
        · rw [hc.2] at h; cases h
      · rcases hrestj with ⟨g1, g2, g3, rfl, rfl, hrj⟩ | ⟨g1, g2, g3, y, rfl, rfl, hrj⟩ | ⟨h, _⟩
        · exact ⟨_, _, .inl ⟨hwj, hndj, .inr (.inl ⟨g1, g2, g3, rfl, rfl, hrj⟩)⟩, hy0⟩
        · exact ⟨_, _, .inl ⟨hwj, hndj, .inr (.inr (.inl ⟨g1, g2, g3, y, rfl, rfl, hrj⟩))⟩, .inl ⟨hw, hnd, .inr (.inr (.inl ⟨h1, h2, h3, x, upd_comm (Ne.symm hij), rfl, hr⟩))⟩⟩
        · rw [hc.2] at h; cases h
      · rw [hc.1] at h; cases h
    · exact ⟨N, L, .inr ⟨hwj, hvj, rfl, rfl⟩, hy0⟩
  · exact ⟨N2, L2, hu, .inr ⟨hw, hv, rfl, rfl⟩⟩

def gOp (P : Program) (ops : Array Oper) (w0 : World) (γ : Nat → Nat) (i : Nat) (K : Act → (Nat → Option Obj) → List Ent → Prop) (a : Act) (N : Nat → Option Obj) (L : List Ent) : Prop :=
  match ops[i]? with
  | none => K a N L
  | some o => ∃ v N' L', YG P ops w0 γ i o v a N L N' L' ∧ K (a.put o.dst v) N' L'
theorem gOp_mono {γ : Nat → Nat} {i : Nat} {K K' : Act → (Nat → Option Obj) → List Ent → Prop} {a : Act} {N : Nat → Option Obj} {L : List Ent} (h : ∀ a N L, K a N L → K' a N L) (hh : gOp P ops w0 γ i K a N L) : gOp P ops w0 γ i K' a N L := by
  unfold gOp at *
  split
  · rename_i ho; simp only [ho] at hh; exact h _ _ _ hh
  · rename_i o ho
    simp only [ho] at hh
    obtain ⟨v, N', L', h1, h2⟩ := hh
    exact ⟨v, N', L', h1, h _ _ _ h2⟩

def wpG (P : Program) (ops : Array Oper) (w0 : World) (γ : Nat → Nat) (Z : Act → (Nat → Option Obj) → List Ent → Prop) : List Oper → Nat → Act → (Nat → Option Obj) → List Ent → Prop
  | [], _, a, N, L => Z a N L
  | o :: rest, k, a, N, L => ∃ v N' L', YG P ops w0 γ k o v a N L N' L' ∧ wpG P ops w0 γ Z rest (k + 1) (a.put o.dst v) N' L'

def wpAnyG (P : Program) (md : Region.Mode) (ops : Array Oper) (w0 : World) (γ : Nat → Nat) (n : Nat) (LL : Array Bool → Act → (Nat → Option Obj) → List Ent → Prop) : Nat → Array Bool → Act → (Nat → Option Obj) → List Ent → Prop
  | 0, listed, a, N, L => LL listed a N L
  | f + 1, listed, a, N, L => Region.ready md ops listed ≠ [] ∧ ∀ i ∈ Region.ready md ops listed, i < n ∧ gOp P ops w0 γ i (wpAnyG P md ops w0 γ n LL f (listed.setIfInBounds i true)) a N L

theorem gOp_put {γ : Nat → Nat} {i j : Nat} {oi oj : Oper} {v : Value} {N N1 : Nat → Option Obj} {L L1 : List Ent} (hij : j ≠ i) (hj : ops[j]? = some oj) (hap : oi.apart ops oj = true) (hco : compat oi oj = true)
    (hsi : ∀ cs b, oi.op ≠ .select cs b) (hsj : ∀ cs b, oj.op ≠ .select cs b) {K : Act → (Nat → Option Obj) → List Ent → Prop} {a : Act}
    (hy : YG P ops w0 γ i oi v a N L N1 L1) (h : gOp P ops w0 γ j K (a.put oi.dst v) N1 L1) :
    gOp P ops w0 γ j (fun a' N' L' => ∃ N2 L2, YG P ops w0 γ i oi v a' N' L' N2 L2 ∧ K (a'.put oi.dst v) N2 L2) a N L := by
  obtain ⟨h1, h2, h3⟩ := Oper.apart_spec hap
  unfold gOp at *
  simp only [hj] at *
  obtain ⟨u, N2, L2, hu, hn⟩ := h
  have hu' := hu.of_same (a' := a) (execOp_put oj hsj a oi.dst v h1).symm (wanted_put oj a oi.dst v h1).symm
  obtain ⟨N1', L1', g1, g2⟩ := YG.swap hij hco hy hu'
  refine ⟨u, N1', L1', g1, N2, L2, g2.of_same (execOp_put oi hsi a oj.dst u h3) (wanted_put oi a oj.dst u h3), ?_⟩
  rw [← Act.put_comm a v u h2]; exact hn

/-- What is known of the operations that have come up, while some before the tail have not. -/
structure HeadOK (md : Region.Mode) (ops : Array Oper) (n : Nat) (Hd : Array Bool → Prop) : Prop where
  set : ∀ listed i, Hd listed → i ∈ Region.ready md ops listed → i < n → Hd (listed.setIfInBounds i true)
  lt : ∀ listed i, Hd listed → i < n → listed.getD i true = false → ∀ t ∈ Region.ready md ops listed, t < n

theorem wpAnyG_first {γ : Nat → Nat} {n i : Nat} {oi : Oper} {v : Value} {LL : Array Bool → Act → (Nat → Option Obj) → List Ent → Prop} {Hd : Array Bool → Prop} (hH : HeadOK md ops n Hd) (hi : ops[i]? = some oi)
    (hsel : ∀ (j : Nat) (o : Oper) cs b, ops[j]? = some o → o.op ≠ .select cs b) (hin : i < n) (hdone : ∀ listed a N L, LL listed a N L → ∀ j ∈ Region.ready md ops listed, n ≤ j) :
    ∀ (f : Nat) (listed : Array Bool) (a : Act) (N N1 : Nat → Option Obj) (L L1 : List Ent), Hd listed →
      (∀ j oj, ops[j]? = some oj → j ≠ i → listed.getD j true = false → (∀ e ∈ oj.after, Region.binds md e = true → e.on ≠ i) → oi.apart ops oj = true ∧ compat oi oj = true) →
      i ∈ Region.ready md ops listed → YG P ops w0 γ i oi v a N L N1 L1 →
      wpAnyG P md ops w0 γ n LL f (listed.setIfInBounds i true) (a.put oi.dst v) N1 L1 → wpAnyG P md ops w0 γ n LL (f + 1) listed a N L := by
  intro f
  induction f with
  | zero =>
    intro listed a N N1 L L1 inv _ hr hy H
    have hun := (mem_ready.1 hr).1
    refine ⟨fun h => (by rw [h] at hr; cases hr), fun j hj => ?_⟩
    have hjn := hH.lt listed i inv hin hun j hj
    refine ⟨hjn, ?_⟩
    by_cases hji : j = i
    · subst hji
      unfold gOp; simp only [hi]; exact ⟨v, _, _, hy, H⟩
    · have := hdone _ _ _ _ H j (ready_mono hj hji)
      omega
  | succ f ih =>
    intro listed a N N1 L L1 inv hfree hr hy H
    have hun := (mem_ready.1 hr).1
    refine ⟨fun h => (by rw [h] at hr; cases hr), fun j hj => ?_⟩
    have hjn := hH.lt listed i inv hin hun j hj
    refine ⟨hjn, ?_⟩
    by_cases hji : j = i
    · subst hji
      unfold gOp; simp only [hi]; exact ⟨v, _, _, hy, H⟩
    · have h1 := (H.2 j (ready_mono hj hji)).2
      obtain ⟨hjun, oj, hoj, hall⟩ := mem_ready.1 hj
      have hnot : ∀ e ∈ oj.after, Region.binds md e = true → e.on ≠ i := fun e he hb heq => by
        have h1 := hall e he hb
        rw [heq, getD_both hun] at h1
        cases h1
      obtain ⟨hap, hco⟩ := hfree j oj hoj hji hjun hnot
      have h2 := gOp_put hji hoj hap hco (fun cs b => hsel i oi cs b hi) (fun cs b => hsel j oj cs b hoj) hy h1
      have hfree' : ∀ k ok, ops[k]? = some ok → k ≠ i → (listed.setIfInBounds j true).getD k true = false →
          (∀ e ∈ ok.after, Region.binds md e = true → e.on ≠ i) → oi.apart ops ok = true ∧ compat oi ok = true := fun k ok hk hki hun hno => by
        refine hfree k ok hk hki ?_ hno
        by_cases hjk : j = k
        · subst hjk; exact hjun
        · rw [getD_set_ne true hjk] at hun; exact hun
      refine gOp_mono (fun a' N' L' h3 => ?_) h2
      obtain ⟨N2, L2, h3, h4⟩ := h3
      refine ih (listed.setIfInBounds j true) a' N' N2 L' L2 (hH.set listed j inv hj hjn) hfree' (ready_mono hr (Ne.symm hji)) h3 ?_
      rw [Array.setIfInBounds_comm _ _ hji]
      exact h4

def noSt (ops : Array Oper) : Bool := ops.all fun o => !isSt o.op
def freeC (md : Region.Mode) (ops : Array Oper) (listed : Array Bool) (i : Nat) : Bool :=
  match ops[i]? with
  | none => false
  | some oi => (List.range ops.size).all fun j => j == i || listed.getD j true || match ops[j]? with
      | some oj => compat oi oj || oj.after.any (fun e => Region.binds md e && e.on == i)
      | none => true
theorem freeC_spec {i : Nat} {oi : Oper} {listed : Array Bool} (hi : ops[i]? = some oi) (h : (noSt ops || freeC md ops listed i) = true) (j : Nat) (oj : Oper)
    (hj : ops[j]? = some oj) (hne : j ≠ i) (hun : listed.getD j true = false) (hno : ∀ e ∈ oj.after, Region.binds md e = true → e.on ≠ i) : compat oi oj = true := by
  rcases Bool.or_eq_true _ _ ▸ h with h | h
  · have hst : ∀ (k : Nat) o, ops[k]? = some o → isSt o.op = false := fun k o hk => by
      obtain ⟨hlt, he⟩ := Array.getElem?_eq_some_iff.1 hk
      have := (Array.all_eq_true.1 h) k hlt
      rw [he] at this; simpa using this
    simp [compat, hst i oi hi, hst j oj hj]
  · simp only [freeC, hi, List.all_eq_true, List.mem_range] at h
    have h1 := h j (Array.getElem?_eq_some_iff.1 hj).1
    simp only [hj, Bool.or_eq_true, beq_iff_eq, hne, false_or, hun, Bool.false_eq_true] at h1
    rcases h1 with h1 | h1
    · exact h1
    · obtain ⟨e, he, hb⟩ := Array.any_eq_true'.1 h1
      simp only [Bool.and_eq_true, beq_iff_eq] at hb
      exact absurd hb.2 (hno e he hb.1)

/-- The operations one after the other, each ready and free. -/
def lexRun (md : Region.Mode) (ops : Array Oper) (fin : Array Bool → Bool) : Nat → Nat → Array Bool → Bool
  | 0, _, listed => fin listed
  | f + 1, k, listed => (Region.ready md ops listed).contains k && (Region.free md ops listed k && (noSt ops || freeC md ops listed k)) && lexRun md ops fin f (k + 1) (listed.setIfInBounds k true)

theorem wpAnyG_lex {γ : Nat → Nat} {n : Nat} {fin : Array Bool → Bool} {Z : Act → (Nat → Option Obj) → List Ent → Prop} {Hd : Array Bool → Prop} (hH : HeadOK md ops n Hd) (hsel : Region.noSelect ops = true)
    (hfin : ∀ listed, fin listed = true → ∀ j ∈ Region.ready md ops listed, n ≤ j) :
    ∀ (l : List Oper) (k : Nat) (listed : Array Bool) (a : Act) (N : Nat → Option Obj) (L : List Ent), (∀ j, j < l.length → l[j]? = ops[k + j]?) → k + l.length = n → Hd listed →
    lexRun md ops fin l.length k listed = true → wpG P ops w0 γ Z l k a N L →
    wpAnyG P md ops w0 γ n (fun listed' a' N' L' => fin listed' = true ∧ Z a' N' L') l.length listed a N L
  | [], k, listed, a, N, L, _, hk, _, hB, h => ⟨by simpa [lexRun] using hB, h⟩
  | o :: l, k, listed, a, N, L, hl, hk, inv, hB, h => by
    have h0 : ops[k]? = some o := by simpa using (hl 0 (by simp)).symm
    simp only [List.length_cons, lexRun, Bool.and_eq_true] at hB
    obtain ⟨⟨hr, hf, hc⟩, hB'⟩ := hB
    have hkn : k < n := by simp only [List.length_cons] at hk; omega
    have hr' : k ∈ Region.ready md ops listed := by simpa using hr
    obtain ⟨v, N', L', hy, hK⟩ := h
    exact wpAnyG_first hH h0 (Region.noSelect_spec hsel) hkn (fun listed' a' N' L' hL => hfin _ hL.1) l.length listed a N N' L L' inv
      (fun j oj hj hne hun hno => ⟨Region.free_spec h0 hf j oj hj hne hun hno, freeC_spec h0 hc j oj hj hne hun hno⟩) hr' hy
      (wpAnyG_lex hH hsel hfin l (k + 1) _ _ _ _ (fun j hj => by have := hl (j + 1) (by simp; omega); simpa [Nat.add_assoc, Nat.add_comm 1 j] using this) (by simp only [List.length_cons] at hk; omega) (hH.set _ _ inv hr' hkn) hB' hK)

/-! ## the worlds -/
theorem ents_eq : ∀ {L1 L2 : List Ent}, L1.map (fun e => (e.b, e.own)) = L2.map (fun e => (e.b, e.own)) → (∀ x ∈ L1, ∀ y ∈ L2, x.b = y.b → x.o = y.o) → L1 = L2
  | [], [], _, _ => rfl
  | [], _ :: _, h, _ => by simp at h
  | _ :: _, [], h, _ => by simp at h
  | x :: xs, y :: ys, h, ho => by
    simp only [List.map_cons, List.cons.injEq, Prod.mk.injEq] at h
    obtain ⟨⟨h1, h2⟩, h3⟩ := h
    have h4 := ho x List.mem_cons_self y List.mem_cons_self h1
    have : x = y := by cases x; cases y; simp_all
    rw [this, ents_eq h3 (fun x hx y hy => ho x (List.mem_cons_of_mem _ hx) y (List.mem_cons_of_mem _ hy))]

/-- What an operation does is the same under every prophecy that agrees. -/
theorem YG.uniq {γ κ : Nat → Nat} {i : Nat} {o : Oper} {v v' : Value} {a : Act} {w : World} {N N' N'' : Nat → Option Obj} {L L' L'' : List Ent} (hw : RepN w0 w κ N L) (hag : ∀ j, N j ≠ none → γ j = κ j)
    (hfresh : lays o.op = true → Region.wanted o (yielded ops a.tmps) = true → w.heap.size = γ i ∧ w.heap.size = κ i)
    (h : YG P ops w0 κ i o v a N L N' L') (h' : YG P ops w0 γ i o v' a N L N'' L'') : v' = v ∧ N'' = N' ∧ L'' = L' := by
  have hwγ := hw.congr hag
  rcases h with ⟨hwt, hnd, hc⟩ | ⟨hwt, rfl, rfl, rfl⟩
  · rcases h' with ⟨_, _, hc'⟩ | ⟨hwt', _⟩
    · rcases hc with ⟨hf, rfl, rfl, hr⟩ | ⟨h1, h2, h3, rfl, rfl, hr⟩ | ⟨h1, h2, h3, x, rfl, rfl, hr⟩ | ⟨hst, rfl, hs, hk, hr⟩
      · rcases hc' with ⟨_, rfl, rfl, hr'⟩ | ⟨h1, _⟩ | ⟨h1, _⟩ | ⟨hst, _⟩
        · have e := hr w; rw [hr' w] at e; injection e with e _; injection e with e; exact ⟨e, rfl, rfl⟩
        · rw [hf] at h1; cases h1
        · rw [hf] at h1; cases h1
        · rw [isSt_fr hst] at hf; cases hf
      · rcases hc' with ⟨hf, _⟩ | ⟨_, _, _, rfl, rfl, hr'⟩ | ⟨_, _, h3', _⟩ | ⟨hst, _⟩
        · rw [hf] at h1; cases h1
        · have e1 := hr w hw.rep
          have e2 := hr' w hw.rep
          revert e1 e2
          cases hrun : (execOp a.eval o).run P w with
          | ok nx w1 =>
            cases nx <;> intro e1 e2 <;> simp only [Comes1] at e1 e2
            case value u => exact ⟨by rw [← e1.2, ← e2.2], rfl, rfl⟩
            case skip => exact ⟨by rw [e1.2, e2.2], rfl, rfl⟩
            case enter f' args => exact ⟨calls_agree e2.2.2 e1.2.2 e1.2.1, rfl, rfl⟩
          | halt x w1 => intro e1; simp only [Comes1] at e1
        · rw [h3] at h3'; cases h3'
        · rw [h2] at hst; cases hst
      · rcases hc' with ⟨hf, _⟩ | ⟨_, _, h3', _⟩ | ⟨_, _, _, x', rfl, rfl, hr'⟩ | ⟨hst, _⟩
        · rw [hf] at h1; cases h1
        · rw [h3] at h3'; cases h3'
        · obtain ⟨f1, f2⟩ := hfresh h3 hwt
          have h4 := hr w hw.rep f2
          rw [hr' w hw.rep f1] at h4
          injection h4 with h5 h6
          injection h5 with h7
          have h8 : (w.alloc x).heap[w.heap.size]? = (w.alloc x').heap[w.heap.size]? := by rw [h6]
          have h9 : ∀ y : Obj, (w.alloc y).heap[w.heap.size]? = some y := fun y => by show (w.heap.push y)[w.heap.size]? = some y; simp
          rw [h9, h9] at h8
          injection h8 with h10
          exact ⟨h7, by rw [h10], rfl⟩
        · rw [h2] at hst; cases hst
      · rcases hc' with ⟨hf, _⟩ | ⟨_, h2, _⟩ | ⟨_, h2, _⟩ | ⟨_, rfl, hs', hk', hr'⟩
        · rw [isSt_fr hst] at hf; cases hf
        · rw [h2] at hst; cases hst
        · rw [h2] at hst; cases hst
        · obtain ⟨w1, e1, r1⟩ := hr w hw
          obtain ⟨w2, e2, r2⟩ := hr' w hwγ
          rw [e1] at e2
          injection e2 with _ e2
          subst e2
          refine ⟨rfl, ?_, ?_⟩
          · funext j
            by_cases hj : N j = none
            · rw [(hs j).2 hj, (hs' j).2 hj]
            · have a1 : N' j ≠ none := fun h => hj ((hs j).1 h)
              have a2 : N'' j ≠ none := fun h => hj ((hs' j).1 h)
              obtain ⟨o1, ho1⟩ := Option.ne_none_iff_exists'.1 a1
              obtain ⟨o2, ho2⟩ := Option.ne_none_iff_exists'.1 a2
              have b1 := r1.ok j o1 ho1
              have b2 := r2.ok j o2 ho2
              rw [hag j hj, b1] at b2
              rw [ho1, ho2, b2]
          · refine ents_eq (hk'.trans hk.symm) (fun x hx y hy e => ?_)
            have b1 := r2.rep.ok x hx
            have b2 := r1.rep.ok y hy
            rw [e, b2] at b1
            injection b1 with b1; exact b1.symm
    · rw [hwt] at hwt'; cases hwt'
  · rcases h' with ⟨hwt', _⟩ | ⟨_, rfl, rfl, rfl⟩
    · rw [hwt] at hwt'; cases hwt'
    · exact ⟨rfl, rfl, rfl⟩

theorem wpAnyIn_of_G {r : Option Nat} {Q : Exit → Act → World → Prop} {n g : Nat} {LL : (Nat → Nat) → Array Bool → Act → (Nat → Option Obj) → List Ent → Prop}
    (hL : ∀ γ listed a N L w, LL γ listed a N L → RepN w0 w γ N L → wpAnyIn (FR r) 0 P md ops Q g listed a w) :
    ∀ (f : Nat) (listed : Array Bool) (a : Act) (w : World) (N : Nat → Option Obj) (L : List Ent) (κ : Nat → Nat),
      (∀ γ, (∀ i, N i ≠ none → γ i = κ i) → wpAnyG P md ops w0 γ n (LL γ) f listed a N L) → RepN w0 w κ N L → (∀ i, listed.getD i true = false → N i = none) →
      wpAnyIn (FR r) 0 P md ops Q (f + g) listed a w := by
  intro f
  induction f with
  | zero => intro listed a w N L κ h hw _; rw [Nat.zero_add]; exact hL κ _ _ _ _ _ (h κ (fun _ _ => rfl)) hw
  | succ f ih =>
    intro listed a w N L κ h hw hfr
    rw [show f + 1 + g = (f + g) + 1 by omega]
    refine ⟨fun h0 => absurd h0 (h κ (fun _ _ => rfl)).1, fun i hi => ?_⟩
    have hun := (mem_ready.1 hi).1
    have hNi := hfr i hun
    -- a prophecy that says where the next block lies
    obtain ⟨κ', hk1, hk2⟩ : ∃ κ' : Nat → Nat, κ' i = w.heap.size ∧ ∀ j, N j ≠ none → κ' j = κ j :=
      ⟨fun j => if j = i then w.heap.size else κ j, by simp, fun j hj => by
        by_cases e : j = i
        · subst e; exact absurd hNi hj
        · simp [e]⟩
    have hw' := hw.congr hk2
    have h1 := ((h κ' hk2).2 i hi).2
    obtain ⟨_, o, ho, _⟩ := mem_ready.1 hi
    unfold gOp at h1
    simp only [ho] at h1
    obtain ⟨v, N', L', hy, _⟩ := h1
    have hfr' : ∀ j, (listed.setIfInBounds i true).getD j true = false → N' j = none := fun j hj => by
      by_cases e : i = j
      · subst e
        rw [show (listed.setIfInBounds i true).getD i true = true from by
          rcases Nat.lt_or_ge i listed.size with h' | h' <;> simp [h']] at hj
        cases hj
      · rw [getD_set_ne true e] at hj
        exact hy.off (fun h => e h.symm) (hfr j hj)
    -- every prophecy that agrees sees the same step
    have step : ∀ γ, (∀ j, N' j ≠ none → γ j = κ' j) → wpAnyG P md ops w0 γ n (LL γ) f (listed.setIfInBounds i true) (a.put o.dst v) N' L' := by
      intro γ hγ
      have hγ' : ∀ j, N j ≠ none → γ j = κ' j := fun j hj => hγ j (hy.on hj)
      have h2 := ((h γ (fun j hj => (hγ' j hj).trans (hk2 j hj))).2 i hi).2
      unfold gOp at h2
      simp only [ho] at h2
      obtain ⟨v', N'', L'', hy', hK'⟩ := h2
      obtain ⟨e1, e2, e3⟩ := YG.uniq hw' hγ' (fun hl hwt => by
        have hN' : N' i ≠ none := by
          rcases hy with ⟨_, _, ⟨hf, _⟩ | ⟨_, _, h3, _⟩ | ⟨_, _, _, x, rfl, _⟩ | ⟨hst, _⟩⟩ | ⟨h1, _⟩
          · revert hl hf; cases o.op <;> simp [lays, isFr]
          · rw [hl] at h3; cases h3
          · rw [upd_same]; simp
          · revert hl hst; cases o.op <;> simp [lays, isSt]
          · rw [hwt] at h1; cases h1
        exact ⟨by rw [hγ i hN', hk1], hk1.symm⟩) hy hy'
      rw [e1, e2, e3] at hK'; exact hK'
    show wpOpIn (FR r) 0 P ops Q i _ a w
    unfold wpOpIn
    simp only [ho]
    rcases hy with ⟨hwt, hnd, hy⟩ | ⟨hwt, hv, e1, e2⟩
    · rw [if_pos hwt]
      refine ⟨fun _ _ => trivial, ?_⟩
      rw [show o.semAt (FR r).round a.eval = execOp a.eval o from semAt_nd hnd]
      rcases hy with ⟨hf, e1, e2, hr⟩ | ⟨h1, h2, h3, e1, e2, hr⟩ | ⟨h1, h2, h3, x, e1, e2, hr⟩ | ⟨hst, hv, hs, hk, hr⟩
      · subst e1 e2
        rw [hr w]
        exact ih _ _ _ _ _ κ' step hw' hfr'
      · subst e1 e2
        have h3 := hr w hw.rep
        revert h3
        cases hrun : (execOp a.eval o).run P w with
        | ok nx w1 =>
          cases nx <;> intro h3 <;> simp only [Comes1] at h3
          case value u =>
            obtain ⟨e1, e2⟩ := h3
            subst e1 e2
            exact ih _ _ _ _ _ κ' step hw' hfr'
          case skip =>
            obtain ⟨e1, e2⟩ := h3
            subst e1 e2
            exact ih _ _ _ _ _ κ' step hw' hfr'
          case enter f' args =>
            obtain ⟨e1, hin, hc⟩ := h3
            subst e1
            refine ⟨fun hh => (by cases hh), calls_FR (hc.mono fun e w2 ⟨he, hb⟩ => ?_)⟩
            subst he
            exact ih _ _ _ _ _ κ' step (hw'.grow hb) hfr'
        | halt x w1 => intro h3; simp only [Comes1] at h3
      · subst e1 e2
        rw [hr w hw.rep hk1.symm]
        exact ih _ _ _ _ _ κ' step (hw'.alloc hNi hk1) hfr'
      · subst hv
        obtain ⟨w1, e1, r1⟩ := hr w hw'
        rw [e1]
        exact ih _ _ _ _ _ κ' step r1 hfr'
    · rw [if_neg (by rw [hwt]; simp)]
      refine ⟨fun _ _ => trivial, ?_⟩
      subst hv e1 e2
      exact ih _ _ _ _ _ κ' step hw' hfr'
end

/-! ## the walk's own judgement -/
def LZ (γ : Nat → Nat) (N : Nat → Option Obj) : List Nat → List Ent → Prop
  | [], [] => True
  | j :: js, e :: E => e.b = γ j ∧ N j = some e.o ∧ e.own = true ∧ LZ γ N js E
  | _, _ => False
theorem LZ.congr {γ : Nat → Nat} {N N' : Nat → Option Obj} : ∀ {js : List Nat} {E : List Ent}, LZ γ N js E → (∀ j ∈ js, N' j = N j) → LZ γ N' js E
  | [], [], _, _ => trivial
  | [], _ :: _, h, _ => h
  | _ :: _, [], h, _ => h
  | j :: js, e :: E, ⟨h1, h2, h3, h4⟩, hN => ⟨h1, by rw [hN j List.mem_cons_self]; exact h2, h3, h4.congr (fun k hk => hN k (List.mem_cons_of_mem _ hk))⟩
theorem LZ.mem {γ : Nat → Nat} {N : Nat → Option Obj} : ∀ {js : List Nat} {E : List Ent}, LZ γ N js E → ∀ e ∈ E, ∃ j ∈ js, e.b = γ j ∧ N j = some e.o ∧ e.own = true
  | [], [], _, _, h => by cases h
  | [], _ :: _, h, _, _ => h.elim
  | _ :: _, [], h, _, _ => h.elim
  | j :: js, e :: E, ⟨h1, h2, h3, h4⟩, x, hx => by
    rcases List.mem_cons.1 hx with rfl | hx
    · exact ⟨j, List.mem_cons_self, h1, h2, h3⟩
    · obtain ⟨k, hk, hr⟩ := h4.mem x hx
      exact ⟨k, List.mem_cons_of_mem _ hk, hr⟩
theorem LZ.live {γ : Nat → Nat} {N : Nat → Option Obj} : ∀ {js : List Nat} {E : List Ent}, LZ γ N js E → ∀ j ∈ js, N j ≠ none
  | [], _, _, _, h => by cases h
  | _ :: _, [], h, _, _ => h.elim
  | i :: js, e :: E, ⟨_, h2, _, h4⟩, j, hj => by
    rcases List.mem_cons.1 hj with rfl | hj
    · rw [h2]; simp
    · exact h4.live j hj
theorem LZ.keys {γ : Nat → Nat} {N : Nat → Option Obj} : ∀ {js : List Nat} {E : List Ent}, LZ γ N js E → E.map Ent.b = js.map γ
  | [], [], _ => rfl
  | [], _ :: _, h => h.elim
  | _ :: _, [], h => h.elim
  | j :: js, e :: E, ⟨h1, _, _, h4⟩ => by simp [h1, h4.keys]
theorem LZ.turn {γ : Nat → Nat} {N : Nat → Option Obj} {b : Nat} {x y : Obj} : ∀ {js : List Nat} {E E' : List Ent}, LZ γ N js E → js.Nodup → Upd E b x y E' → ∃ j ∈ js, γ j = b ∧ N j = some x ∧ LZ γ (upd N j (some y)) js E'
  | [], _, _, h, _, hu => by cases hu <;> exact h.elim
  | j :: js, _, _, h, hn, .hd => by
    obtain ⟨h1, h2, h3, h4⟩ := h
    simp only [List.nodup_cons] at hn
    exact ⟨j, List.mem_cons_self, h1.symm, h2, h1, upd_same, h3, h4.congr (fun k hk => upd_other (fun e => hn.1 (e ▸ hk)))⟩
  | j :: js, _, _, h, hn, .tl hu => by
    obtain ⟨h1, h2, h3, h4⟩ := h
    simp only [List.nodup_cons] at hn
    obtain ⟨k, hk, g1, g2, g3⟩ := h4.turn hn.2 hu
    exact ⟨k, List.mem_cons_of_mem _ hk, g1, g2, h1, by rw [upd_other (fun (e : j = k) => hn.1 (by rw [e]; exact hk))]; exact h2, h3, g3⟩

structure Lists (γ : Nat → Nat) (k : Nat) (N : Nat → Option Obj) (E : List Ent) : Prop where
  off : ∀ j, k ≤ j → N j = none
  js : ∃ js : List Nat, js.Nodup ∧ (∀ j ∈ js, j < k) ∧ LZ γ N js E
theorem Lists.nil {γ : Nat → Nat} : Lists γ 0 (fun _ => none) [] := ⟨fun _ _ => rfl, [], List.nodup_nil, by simp, trivial⟩
theorem Lists.still {γ : Nat → Nat} {k : Nat} {N : Nat → Option Obj} {E : List Ent} (h : Lists γ k N E) : Lists γ (k + 1) N E := by
  obtain ⟨js, h1, h2, h3⟩ := h.js
  exact ⟨fun j hj => h.off j (by omega), js, h1, fun j hj => by have := h2 j hj; omega, h3⟩
theorem Lists.lay {γ : Nat → Nat} {k : Nat} {N : Nat → Option Obj} {E : List Ent} {x : Obj} (h : Lists γ k N E) : Lists γ (k + 1) (upd N k (some x)) (⟨γ k, x, true⟩ :: E) := by
  obtain ⟨js, h1, h2, h3⟩ := h.js
  refine ⟨fun j hj => by rw [upd_other (by omega)]; exact h.off j (by omega), k :: js, ?_, ?_, rfl, upd_same, rfl, h3.congr (fun j hj => upd_other (by have := h2 j hj; omega))⟩
  · exact List.nodup_cons.2 ⟨fun hk => by have := h2 k hk; omega, h1⟩
  · intro j hj
    rcases List.mem_cons.1 hj with rfl | hj
    · omega
    · have := h2 j hj; omega
theorem Lists.turn {γ : Nat → Nat} {k : Nat} {N : Nat → Option Obj} {E E' : List Ent} {b : Nat} {x y : Obj} (h : Lists γ k N E) (hu : Upd E b x y E') : ∃ j, γ j = b ∧ N j = some x ∧ Lists γ (k + 1) (upd N j (some y)) E' := by
  obtain ⟨js, h1, h2, h3⟩ := h.js
  obtain ⟨j, hj, g1, g2, g3⟩ := h3.turn h1 hu
  refine ⟨j, g1, g2, ⟨fun i hi => ?_, js, h1, fun i hi => by have := h2 i hi; omega, g3⟩⟩
  have := h2 j hj
  rw [upd_other (by omega)]; exact h.off i (by omega)
theorem Lists.rep {w0 w : World} {L : List Ent} {γ : Nat → Nat} {k : Nat} {N : Nat → Option Obj} {E : List Ent} (h : Lists γ k N E) (hw : RepN w0 w γ N L) : Rep w0 w (E ++ L) := by
  obtain ⟨js, h1, h2, h3⟩ := h.js
  have hr := hw.rep
  refine ⟨hr.os, hr.tape, hr.output, hr.size, fun y hy => ?_, fun y hy ho => ?_, ?_, fun b hb hx => hr.frame b hb fun y hy => hx y (List.mem_append_right _ hy)⟩
  · rcases List.mem_append.1 hy with hy | hy
    · obtain ⟨j, hj, g1, g2, _⟩ := h3.mem y hy
      rw [g1]; exact hw.ok j _ g2
    · exact hr.ok y hy
  · rcases List.mem_append.1 hy with hy | hy
    · obtain ⟨j, hj, g1, g2, _⟩ := h3.mem y hy
      rw [g1]; exact hw.new j (by rw [g2]; simp)
    · exact hr.own y hy ho
  · rw [List.map_append, List.nodup_append]
    refine ⟨?_, hr.nd, fun x hx y hy e => ?_⟩
    · rw [h3.keys]
      have hsome := h3.live
      clear h
      clear h3 h2
      induction js with
      | nil => simp
      | cons i js ih =>
        simp only [List.nodup_cons] at h1
        simp only [List.map_cons, List.nodup_cons]
        refine ⟨fun hm => ?_, ih h1.2 (fun j hj => hsome j (List.mem_cons_of_mem _ hj))⟩
        obtain ⟨j, hj, e⟩ := List.mem_map.1 hm
        exact hw.nd i j (hsome i List.mem_cons_self) (hsome j (List.mem_cons_of_mem _ hj)) (fun e => h1.1 (e ▸ hj)) e.symm
    · obtain ⟨x', hx', rfl⟩ := List.mem_map.1 hx
      obtain ⟨y', hy', rfl⟩ := List.mem_map.1 hy
      obtain ⟨j, hj, g1, g2, _⟩ := h3.mem x' hx'
      exact hw.far j (by rw [g2]; simp) y' hy' (by rw [← g1, e])

/-- What is owed while the operations before the tail are walked in the order of the text: T stands behind them. -/
def WQ (P : Program) (ops : Array Oper) (w0 : World) (L : List Ent) (γ : Nat → Nat) (T : Act → World → Prop) (k : Nat) (E : List Ent) (l : List Oper) : Act → World → Prop :=
  fun a _ => ∀ N, Lists γ k N E → wpG P ops w0 γ (fun a' N' L' => ∀ w', RepN w0 w' γ N' L' → T a' w') l k a N L

def headB (md : Region.Mode) (ops : Array Oper) : Bool := Region.noSelect ops && lexRun md ops (fun listed => (Region.ready md ops listed).isEmpty) ops.size 0 (Array.replicate ops.size false)
def tailB (md : Region.Mode) (ops : Array Oper) (n : Nat) : Bool :=
  Region.noSelect ops && decide (n < ops.size) && Region.sinkB md ops n && Region.chainB md ops n && lexRun md ops (fun listed => Region.seqB md ops (ops.size - n) n listed) n 0 (Array.replicate ops.size false)

section
variable {r : Option Nat} {P : Program} {n : Nat} {D : List Deferred} {w0 : World} {F : List (Nat × Value)} {L E : List Ent} {γ : Nat → Nat} {k : Nat} {T : Act → World → Prop} {Q : Exit → Act → World → Prop} {ops : Array Oper} {md : Region.Mode}
variable {d : Tmp} {ty : TypeId} {pos : String} {af : Array Edge} {rest : List Oper}

theorem wpAnyIn_of_seq {F : Fence} {m : Nat} : ∀ (l : List Oper) (k : Nat) (listed : Array Bool) (a : Act) (w : World), (∀ j, l[j]? = ops[k + j]?) →
    Region.seqB md ops l.length k listed = true → wpListIn F m P ops Q l a w → wpAnyIn F m P md ops Q l.length listed a w
  | [], _, _, _, _, _, hB, h => ⟨by simpa [Region.seqB] using hB, h⟩
  | o :: l, k, listed, a, w, hl, hB, h => by
    have h0 : ops[k]? = some o := by simpa using (hl 0).symm
    simp only [List.length_cons, Region.seqB, Bool.and_eq_true, decide_eq_true_eq] at hB
    refine ⟨fun h1 => (by rw [hB.1] at h1; cases h1), fun i hi => ?_⟩
    rw [hB.1] at hi
    have hik : i = k := by simpa using hi
    subst hik
    have hw : wpOpIn F m P ops Q i (wpListIn F m P ops Q l) a w := by unfold wpOpIn; simp only [h0]; exact h
    exact wpOpIn_mono (fun a' w' h' => wpAnyIn_of_seq l (i + 1) _ a' w' (fun j => by have := hl (j + 1); simpa [Nat.add_assoc, Nat.add_comm 1 j] using this) hB.2 h') hw

theorem c_regionD0 {id : Nat} {l : List Oper} (hm : P.follows .mixedOrders = true) (hB : headB .any l.toArray = true)
    (h : ∀ γ, St n D w0 F L (WQ P l.toArray w0 L γ (Q .normal) 0 [] l)) : St n D w0 F L (WC r P (.region id l.toArray true) Q) := by
  intro a w ha hw
  simp only [headB, Bool.and_eq_true] at hB
  show (Code.region id l.toArray true).wpIn (FR r) 0 P Q a w
  refine wpIn_region_any hm ?_
  have hwd := hw.drew
  have hH : HeadOK .any l.toArray l.length (fun _ => True) := ⟨fun _ _ _ _ _ => trivial, fun listed i _ _ _ t ht => by
    obtain ⟨_, ot, hot, _⟩ := mem_ready.1 ht
    simpa using (Array.getElem?_eq_some_iff.1 hot).1⟩
  have key := wpAnyIn_of_G (P := P) (md := .any) (ops := l.toArray) (w0 := w0) (r := r) (Q := Q) (n := l.length) (g := 0)
    (LL := fun γ listed' a' N' L' => (Region.ready .any l.toArray listed').isEmpty = true ∧ ∀ w', RepN w0 w' γ N' L' → Q .normal a' w')
    (fun γ listed a' N' L' w' hL hw' => ⟨by simpa using hL.1, hL.2 w' hw'⟩) l.length (Array.replicate l.toArray.size false) a { w with drawn := w.drawn + 1 } (fun _ => none) L (fun _ => 0)
    (fun γ _ => wpAnyG_lex hH hB.1 (fun listed hf j hj => by rw [List.isEmpty_iff] at hf; rw [hf] at hj; cases hj) l 0 _ a _ _ (fun j _ => by simp) (by simp) trivial (by simpa using hB.2) (h γ a w ha hw _ Lists.nil))
    ⟨hwd, fun i o hi => (by cases hi), fun i hi => absurd rfl hi, fun i hi => absurd rfl hi, fun i j hi => absurd rfl hi⟩ (fun _ _ => rfl)
  simpa using key

theorem c_regionD {id : Nat} {l : List Oper} (m : Nat) (hm : P.follows .mixedOrders = true) (hB : tailB .any l.toArray m = true)
    (h : ∀ γ, St n D w0 F L (WQ P l.toArray w0 L γ (WL r P l.toArray Q (l.drop m)) 0 [] (l.take m))) : St n D w0 F L (WC r P (.region id l.toArray true) Q) := by
  intro a w ha hw
  simp only [tailB, Bool.and_eq_true, decide_eq_true_eq] at hB
  obtain ⟨⟨⟨⟨hsel, hn⟩, hs⟩, hc⟩, hlex⟩ := hB
  show (Code.region id l.toArray true).wpIn (FR r) 0 P Q a w
  refine wpIn_region_any hm ?_
  have hwd := hw.drew
  have hn' : m < l.length := by simpa using hn
  have htl : (l.take m).length = m := by simp; omega
  have hdl : (l.drop m).length = l.toArray.size - m := by simp
  have inv0 : HeadInv .any l.toArray m (Array.replicate l.toArray.size false) :=
    ⟨by simp, fun j oj _ hl => (by rw [getD_replicate_false] at hl; cases hl), fun t _ ht => getD_in (by simpa using ht) (getD_replicate_false _ _)⟩
  have hH : HeadOK .any l.toArray m (HeadInv .any l.toArray m) := ⟨fun listed i inv hi hin => inv.set hi hin, fun listed i inv hin hun t ht => by
    rcases Nat.lt_or_ge t m with h | h
    · exact h
    · exact absurd ht (tail_waits hs hc hn inv _ i rfl hin hun t h)⟩
  have key := wpAnyIn_of_G (P := P) (md := .any) (ops := l.toArray) (w0 := w0) (r := r) (Q := Q) (n := m) (g := l.toArray.size - m)
    (LL := fun γ listed' a' N' L' => Region.seqB .any l.toArray (l.toArray.size - m) m listed' = true ∧ ∀ w', RepN w0 w' γ N' L' → WL r P l.toArray Q (l.drop m) a' w')
    (fun γ listed a' N' L' w' hL hw' => by
      have := wpAnyIn_of_seq (md := .any) (Q := Q) (P := P) (F := FR r) (m := 0) (ops := l.toArray) (l.drop m) m listed a' w' (fun j => by simp [List.getElem?_drop]) (by rw [hdl]; exact hL.1) (hL.2 w' hw')
      rwa [hdl] at this) m (Array.replicate l.toArray.size false) a { w with drawn := w.drawn + 1 } (fun _ => none) L (fun _ => 0)
    (fun γ _ => by
      have := wpAnyG_lex (γ := γ) (P := P) (w0 := w0) (Z := fun a' N' L' => ∀ w', RepN w0 w' γ N' L' → WL r P l.toArray Q (l.drop m) a' w') hH hsel (fin := fun listed => Region.seqB .any l.toArray (l.toArray.size - m) m listed) (fun listed hf j hj => seqB_ready hf j hj) (l.take m) 0 _ a (fun _ => none) L
        (fun j hj => by
          have hj' : j < m := by rw [htl] at hj; exact hj
          simp [hj']) (by simpa using htl) inv0 (by rw [htl]; exact hlex) (h γ a w ha hw _ Lists.nil)
      rwa [htl] at this)
    ⟨hwd, fun i o hi => (by cases hi), fun i hi => absurd rfl hi, fun i hi => absurd rfl hi, fun i j hi => absurd rfl hi⟩ (fun _ _ => rfl)
  rw [show m + (l.toArray.size - m) = l.toArray.size by omega] at key
  exact key

theorem q_nil (h : St n D w0 F (E ++ L) T) : St n D w0 F L (WQ P ops w0 L γ T k E []) :=
  fun a _ ha _ N hN w' hw' => h a w' ha (hN.rep hw')
def nq (op : Op) : Bool := nd op && !lays op && !isSt op && !isFr op
/-- An operation that looks at the world. -/
theorem q_val {op : Op} {v : Value} (hnd : nq op = true) (hd : Nat.ble (d + 1) n = true)
    (hv : ∀ a w, Fr n D F a → Rep w0 w L → (execOp a.eval ⟨some d, op, ty, pos, af, none⟩).run P w = .ok (.value v) w)
    (h : St n D w0 ((d, v) :: F) L (WQ P ops w0 L γ T (k + 1) E rest)) : St n D w0 F L (WQ P ops w0 L γ T k E (⟨some d, op, ty, pos, af, none⟩ :: rest)) := by
  intro a w ha hw N hN
  simp only [nq, Bool.and_eq_true, Bool.not_eq_true'] at hnd
  obtain ⟨⟨⟨h1, h2⟩, h3⟩, h4⟩ := hnd
  refine ⟨v, N, L, .inl ⟨wanted_none rfl, h1, .inr (.inl ⟨h4, h3, h2, rfl, rfl, fun w' hw' => ?_⟩)⟩, h _ w (ha.put (Nat.le_of_ble_eq_true hd) v) hw _ hN.still⟩
  rw [hv a w' ha hw']
  exact ⟨rfl, rfl⟩
/-- An operation that does not look at the world. -/
theorem q_free {op : Op} {v : Value} (hnd : (nd op && isFr op) = true) (hd : Nat.ble (d + 1) n = true)
    (hv : ∀ a w, Fr n D F a → True → (execOp a.eval ⟨some d, op, ty, pos, af, none⟩).run P w = .ok (.value v) w)
    (h : St n D w0 ((d, v) :: F) L (WQ P ops w0 L γ T (k + 1) E rest)) : St n D w0 F L (WQ P ops w0 L γ T k E (⟨some d, op, ty, pos, af, none⟩ :: rest)) := by
  intro a w ha hw N hN
  simp only [Bool.and_eq_true] at hnd
  exact ⟨v, N, L, .inl ⟨wanted_none rfl, hnd.1, .inl ⟨hnd.2, rfl, rfl, fun w' => hv a w' ha trivial⟩⟩, h _ w (ha.put (Nat.le_of_ble_eq_true hd) v) hw _ hN.still⟩
theorem q_lay {op : Op} {v : Value} {x : Obj} (hnd : (nd op && lays op) = true) (hd : Nat.ble (d + 1) n = true)
    (hv : ∀ a w, Fr n D F a → Rep w0 w L → w.heap.size = γ k → (execOp a.eval ⟨some d, op, ty, pos, af, none⟩).run P w = .ok (.value v) (w.alloc x))
    (h : St n D w0 ((d, v) :: F) L (WQ P ops w0 L γ T (k + 1) (⟨γ k, x, true⟩ :: E) rest)) : St n D w0 F L (WQ P ops w0 L γ T k E (⟨some d, op, ty, pos, af, none⟩ :: rest)) := by
  intro a w ha hw N hN
  simp only [Bool.and_eq_true] at hnd
  have h1 : isFr op = false := by revert hnd; cases op <;> simp [lays, isFr]
  have h2 : isSt op = false := by revert hnd; cases op <;> simp [lays, isSt]
  exact ⟨v, upd N k (some x), L, .inl ⟨wanted_none rfl, hnd.1, .inr (.inr (.inl ⟨h1, h2, hnd.2, x, rfl, rfl, fun w' hw' hs => hv a w' ha hw' hs⟩))⟩, h _ w (ha.put (Nat.le_of_ble_eq_true hd) v) hw _ hN.lay⟩
theorem q_alloc {e : TypeId} {z : Value} {l : List Value} [TZ P e z l] (hd : Nat.ble (d + 1) n = true)
    (h : St n D w0 ((d, .pointer (some ⟨γ k, 0, none⟩)) :: F) L (WQ P ops w0 L γ T (k + 1) (⟨γ k, Ce l e, true⟩ :: E) rest)) :
    St n D w0 F L (WQ P ops w0 L γ T k E (⟨some d, .alloc e, ty, pos, af, none⟩ :: rest)) :=
  q_lay rfl hd (fun a w _ _ hs => by
    rw [← hs]
    simp [execOp, Instr.alloc, TZ.h (P := P) (t := e), newVar, newRow, TZ.hc (P := P) (t := e)]) h
theorem q_box {e : TypeId} {x : Operand} {v : Value} {l : List Value} (hx : ev F x = some v) (hv : v.cells = l.toArray) (hd : Nat.ble (d + 1) n = true)
    (h : St n D w0 ((d, .pointer (some ⟨γ k, 0, none⟩)) :: F) L (WQ P ops w0 L γ T (k + 1) (⟨γ k, Ce l e, true⟩ :: E) rest)) :
    St n D w0 F L (WQ P ops w0 L γ T k E (⟨some d, .box e x, ty, pos, af, none⟩ :: rest)) :=
  q_lay rfl hd (fun a w ha _ hs => by
    rw [← hs]
    simp [execOp, Instr.box, ha.eval hx, newVar, newRow, hv]) h
theorem q_buildSlice {t e : TypeId} {kk m : Nat} {z : Value} {zl zs out : List Value} {xs : List (Nat × Operand)} {vs : List (Nat × Value)} (hU : TU P t (.slice e)) (hS : TS P e kk) (hZ : TZ P e z zl) (hm : m * kk ≤ 16777216) (hk : zl.length = kk) (hk0 : 0 < kk)
    (hzs : (List.replicate m zl).flatten = zs) (hxs : Parts F xs vs) (hf : Fill (fun i => some (i * kk, kk)) zs vs out) (hd : Nat.ble (d + 1) n = true)
    (h : St n D w0 ((d, .slice (some ⟨γ k, 0, none⟩) m m) :: F) L (WQ P ops w0 L γ T (k + 1) (⟨γ k, Ce out e, true⟩ :: E) rest)) :
    St n D w0 F L (WQ P ops w0 L γ T k E (⟨some d, .buildSlice t m xs.toArray, ty, pos, af, none⟩ :: rest)) :=
  q_lay rfl hd (fun a w ha _ hs => by
    rw [← hs]
    exact run_buildSlice hU hS hZ hm hk hk0 hzs hxs hf ha) h

/-! ## stores -/
theorem Upd.keys2 {L L' : List Ent} {b : Nat} {o o' : Obj} (h : Upd L b o o' L') : L'.map (fun e => (e.b, e.own)) = L.map (fun e => (e.b, e.own)) := by
  induction h with
  | hd => rfl
  | tl _ ih => simp [ih]
theorem q_storeG {t e : TypeId} {kk : Nat} {x y : Operand} {b off : Nat} {v : Value} {l l' vs : List Value} {L' : List Ent} [TS P t kk] (hx : ev F x = some (.pointer (some ⟨b, off, none⟩))) (hy : ev F y = some v) (hvs : v.cells = vs.toArray) (hk : vs.length = kk)
    (h1 : ∀ u ∈ vs, u.oneCell' = true) (hl : off + vs.length ≤ l.length) (hl' : l' = l.take off ++ vs ++ l.drop (off + vs.length)) (hu : Upd L b (Ce l e) (Ce l' e) L')
    (h : St n D w0 F L' (WQ P ops w0 L' γ T (k + 1) E rest)) :
    St n D w0 F L (WQ P ops w0 L γ T k E (⟨none, .store t x y, ty, pos, af, none⟩ :: rest)) := by
  intro a w ha hw N hN
  subst hk
  have hrun : ∀ w1, w1.heap[b]? = some (Ce l e) → (execOp a.eval ⟨none, .store t x y, ty, pos, af, none⟩).run P w1 = .ok .skip (w1.setRow b l'.toArray) := fun w1 hb => by
    have hst := run_storeVar (P := P) (t := t) (TS.h w1) hvs hb h1 hl hl'
    simp [execOp, ha.eval hx, ha.eval hy, Instr.storeAt, Instr.sureAddr, hst]
  have hb := hw.at hu.at
  refine ⟨undef, N, L', .inl ⟨wanted_none rfl, rfl, .inr (.inr (.inr ⟨rfl, rfl, fun _ => Iff.rfl, hu.keys2, fun w1 hw1 => ?_⟩))⟩,
    h a (w.setRow b l'.toArray) ha (hw.turn hu rfl rfl rfl (by simp) (setRow_heap w b _ _ e _ hb) (fun k hk => setRow_other w b k _ hk)) _ hN.still⟩
  have hb1 := hw1.rep.at hu.at
  exact ⟨_, hrun w1 hb1, hw1.turnL hu rfl rfl rfl (by simp) (setRow_heap w1 b _ _ e _ hb1) (fun k hk => setRow_other w1 b k _ hk)⟩
theorem q_storeGE {t e : TypeId} {kk : Nat} {x y : Operand} {b off : Nat} {v : Value} {l l' vs : List Value} {E' : List Ent} [TS P t kk] (hx : ev F x = some (.pointer (some ⟨b, off, none⟩))) (hy : ev F y = some v) (hvs : v.cells = vs.toArray) (hk : vs.length = kk)
    (h1 : ∀ u ∈ vs, u.oneCell' = true) (hl : off + vs.length ≤ l.length) (hl' : l' = l.take off ++ vs ++ l.drop (off + vs.length)) (hu : Upd E b (Ce l e) (Ce l' e) E')
    (h : St n D w0 F L (WQ P ops w0 L γ T (k + 1) E' rest)) :
    St n D w0 F L (WQ P ops w0 L γ T k E (⟨none, .store t x y, ty, pos, af, none⟩ :: rest)) := by
  intro a w ha hw N hN
  subst hk
  have hrun : ∀ w1, w1.heap[b]? = some (Ce l e) → (execOp a.eval ⟨none, .store t x y, ty, pos, af, none⟩).run P w1 = .ok .skip (w1.setRow b l'.toArray) := fun w1 hb => by
    have hst := run_storeVar (P := P) (t := t) (TS.h w1) hvs hb h1 hl hl'
    simp [execOp, ha.eval hx, ha.eval hy, Instr.storeAt, Instr.sureAddr, hst]
  obtain ⟨j, g1, g2, g3⟩ := hN.turn hu
  refine ⟨undef, upd N j (some (Ce l' e)), L, .inl ⟨wanted_none rfl, rfl, .inr (.inr (.inr ⟨rfl, rfl, fun i => ?_, rfl, fun w1 hw1 => ?_⟩))⟩, h a w ha hw _ g3⟩
  · by_cases e1 : i = j
    · subst e1; rw [upd_same, g2]; simp
    · rw [upd_other e1]
  · subst g1
    have hb1 := hw1.ok j _ g2
    exact ⟨_, hrun w1 hb1, hw1.turnN g2 rfl rfl rfl (by simp) (setRow_heap w1 _ _ _ e _ hb1) (fun k hk => setRow_other w1 _ k _ hk)⟩
theorem q_store1 {t e : TypeId} {x y : Operand} {b off : Nat} {v : Value} {l l' : List Value} {L' : List Ent} (hS : TS P t 1) (hx : ev F x = some (.pointer (some ⟨b, off, none⟩))) (hy : ev F y = some v) (h1 : v.oneCell' = true)
    (hat : At L b (Ce l e)) (hp : LPut l off [v] l') (hu : Upd L b (Ce l e) (Ce l' e) L') (h : St n D w0 F L' (WQ P ops w0 L' γ T (k + 1) E rest)) :
    St n D w0 F L (WQ P ops w0 L γ T k E (⟨none, .store t x y, ty, pos, af, none⟩ :: rest)) :=
  q_storeG (kk := 1) (vs := [v]) hx hy (by cases v <;> first | rfl | simp [Value.oneCell'] at h1) rfl (by simpa using h1) hp.eq.1 hp.eq.2 hu h
theorem q_storeA {t e : TypeId} {kk : Nat} {x y : Operand} {b off : Nat} {vs l l' : List Value} {L' : List Ent} (hS : TS P t kk) (hx : ev F x = some (.pointer (some ⟨b, off, none⟩))) (hy : ev F y = some (.agg vs.toArray)) (hk : vs.length = kk)
    (h1 : vs.all (·.oneCell') = true) (hat : At L b (Ce l e)) (hp : LPut l off vs l') (hu : Upd L b (Ce l e) (Ce l' e) L') (h : St n D w0 F L' (WQ P ops w0 L' γ T (k + 1) E rest)) :
    St n D w0 F L (WQ P ops w0 L γ T k E (⟨none, .store t x y, ty, pos, af, none⟩ :: rest)) :=
  q_storeG hx hy rfl hk (by simpa using h1) hp.eq.1 hp.eq.2 hu h
theorem q_store1E {t e : TypeId} {x y : Operand} {b off : Nat} {v : Value} {l l' : List Value} {E' : List Ent} (hS : TS P t 1) (hx : ev F x = some (.pointer (some ⟨b, off, none⟩))) (hy : ev F y = some v) (h1 : v.oneCell' = true)
    (hat : At E b (Ce l e)) (hp : LPut l off [v] l') (hu : Upd E b (Ce l e) (Ce l' e) E') (h : St n D w0 F L (WQ P ops w0 L γ T (k + 1) E' rest)) :
    St n D w0 F L (WQ P ops w0 L γ T k E (⟨none, .store t x y, ty, pos, af, none⟩ :: rest)) :=
  q_storeGE (kk := 1) (vs := [v]) hx hy (by cases v <;> first | rfl | simp [Value.oneCell'] at h1) rfl (by simpa using h1) hp.eq.1 hp.eq.2 hu h
theorem q_storeAE {t e : TypeId} {kk : Nat} {x y : Operand} {b off : Nat} {vs l l' : List Value} {E' : List Ent} (hS : TS P t kk) (hx : ev F x = some (.pointer (some ⟨b, off, none⟩))) (hy : ev F y = some (.agg vs.toArray)) (hk : vs.length = kk)
    (h1 : vs.all (·.oneCell') = true) (hat : At E b (Ce l e)) (hp : LPut l off vs l') (hu : Upd E b (Ce l e) (Ce l' e) E') (h : St n D w0 F L (WQ P ops w0 L γ T (k + 1) E' rest)) :
    St n D w0 F L (WQ P ops w0 L γ T k E (⟨none, .store t x y, ty, pos, af, none⟩ :: rest)) :=
  q_storeGE hx hy rfl hk (by simpa using h1) hp.eq.1 hp.eq.2 hu h

theorem q_call_pure {f : FuncId} {fn : Func} [TC P f fn] {xs : List Operand} {vs : List Value} {ats : Array TypeId} {v : Value}
    (hd : Nat.ble (d + 1) n = true) (hi : P.inits.idxOf? f = none) (hxs : Evs F xs vs)
    (hc : ∀ w, Rep w0 w L → Calls P f vs.toArray w fun e w' => e = .returned v ∧ Below w.heap.size w w')
    (h : St n D w0 ((d, v) :: F) L (WQ P ops w0 L γ T (k + 1) E rest)) :
    St n D w0 F L (WQ P ops w0 L γ T k E (⟨some d, .call ⟨.value (.func f), xs.toArray, ats⟩, ty, pos, af, none⟩ :: rest)) := by
  intro a w ha hw N hN
  refine ⟨v, N, L, .inl ⟨wanted_none rfl, rfl, .inr (.inl ⟨rfl, rfl, rfl, rfl, rfl, fun w' hw' => ?_⟩)⟩, h _ w (ha.put (Nat.le_of_ble_eq_true hd) v) hw _ hN.still⟩
  rw [run_callOp (hxs.map ha) (ha.eval (x := .func f) rfl)]
  refine ⟨rfl, hi, ?_⟩
  rw [Array.append_empty]
  exact hc w' hw'
theorem h_run {d : Option Tmp} {op : Op} {j : Nat} {b : Bool} {c : Bool} (hj : gv ops F j = some (.bool c)) (hc : c = b)
    (h : St n D w0 F L (WQ P ops w0 L γ T k E (⟨d, op, ty, pos, af, none⟩ :: rest))) : St n D w0 F L (WQ P ops w0 L γ T k E (⟨d, op, ty, pos, af, some (j, b)⟩ :: rest)) := by
  intro a w ha hw N hN
  subst hc
  obtain ⟨v, N', L', hy, hk⟩ := h a w ha hw N hN
  have hw1 : Region.wanted ⟨d, op, ty, pos, af, some (j, c)⟩ (yielded ops a.tmps) = true := by simp [Region.wanted, yielded_of ha hj]
  refine ⟨v, N', L', ?_, hk⟩
  rcases hy with ⟨_, h2⟩ | ⟨h1, _⟩
  · exact .inl ⟨hw1, h2⟩
  · rw [wanted_none rfl] at h1; cases h1
theorem h_skip {op : Op} {j : Nat} {b : Bool} {c : Bool} (hj : gv ops F j = some (.bool c)) (hc : c = !b) (hd : Nat.ble (d + 1) n = true)
    (h : St n D w0 ((d, undef) :: F) L (WQ P ops w0 L γ T (k + 1) E rest)) : St n D w0 F L (WQ P ops w0 L γ T k E (⟨some d, op, ty, pos, af, some (j, b)⟩ :: rest)) := by
  intro a w ha hw N hN
  subst hc
  exact ⟨undef, N, L, .inr ⟨by simp [Region.wanted, yielded_of ha hj], rfl, rfl, rfl⟩, h _ w (ha.put (Nat.le_of_ble_eq_true hd) undef) hw _ hN.still⟩
theorem h_skip_none {op : Op} {j : Nat} {b : Bool} {c : Bool} (hj : gv ops F j = some (.bool c)) (hc : c = !b)
    (h : St n D w0 F L (WQ P ops w0 L γ T (k + 1) E rest)) : St n D w0 F L (WQ P ops w0 L γ T k E (⟨none, op, ty, pos, af, some (j, b)⟩ :: rest)) := by
  intro a w ha hw N hN
  subst hc
  exact ⟨undef, N, L, .inr ⟨by simp [Region.wanted, yielded_of ha hj], rfl, rfl, rfl⟩, h _ w ha hw _ hN.still⟩
theorem h_skip_undef {op : Op} {j : Nat} {b : Bool} (hj : gv ops F j = some undef) (hd : Nat.ble (d + 1) n = true)
    (h : St n D w0 ((d, undef) :: F) L (WQ P ops w0 L γ T (k + 1) E rest)) : St n D w0 F L (WQ P ops w0 L γ T k E (⟨some d, op, ty, pos, af, some (j, b)⟩ :: rest)) := by
  intro a w ha hw N hN
  exact ⟨undef, N, L, .inr ⟨by simp [Region.wanted, yielded_undef ha hj], rfl, rfl, rfl⟩, h _ w (ha.put (Nat.le_of_ble_eq_true hd) undef) hw _ hN.still⟩
theorem h_split {d : Option Tmp} {op : Op} {j : Nat} {b : Bool} {c : Bool} (hj : gv ops F j = some (.bool c))
    (ht : c = true → St n D w0 F L (WQ P ops w0 L γ T k E (⟨d, op, ty, pos, af, some (j, b)⟩ :: rest))) (hf : c = false → St n D w0 F L (WQ P ops w0 L γ T k E (⟨d, op, ty, pos, af, some (j, b)⟩ :: rest))) :
    St n D w0 F L (WQ P ops w0 L γ T k E (⟨d, op, ty, pos, af, some (j, b)⟩ :: rest)) := by
  cases c
  · exact hf rfl
  · exact ht rfl
theorem h_split_d {d : Option Tmp} {op : Op} {j : Nat} {b : Bool} {p : Prop} {_ : Decidable p} (hj : gv ops F j = some (.bool (decide p)))
    (ht : p → St n D w0 F L (WQ P ops w0 L γ T k E (⟨d, op, ty, pos, af, some (j, b)⟩ :: rest))) (hf : ¬ p → St n D w0 F L (WQ P ops w0 L γ T k E (⟨d, op, ty, pos, af, some (j, b)⟩ :: rest))) :
    St n D w0 F L (WQ P ops w0 L γ T k E (⟨d, op, ty, pos, af, some (j, b)⟩ :: rest)) := h_split hj (fun h => ht (of_decide_eq_true h)) (fun h => hf (of_decide_eq_false h))
theorem h_split_B {d : Option Tmp} {op : Op} {j : Nat} {b : Bool} {p : Prop} (hj : gv ops F j = some (.bool (B p)))
    (ht : p → St n D w0 F L (WQ P ops w0 L γ T k E (⟨d, op, ty, pos, af, some (j, b)⟩ :: rest))) (hf : ¬ p → St n D w0 F L (WQ P ops w0 L γ T k E (⟨d, op, ty, pos, af, some (j, b)⟩ :: rest))) :
    St n D w0 F L (WQ P ops w0 L γ T k E (⟨d, op, ty, pos, af, some (j, b)⟩ :: rest)) := h_split hj (fun h => ht (of_B h)) (fun h => hf (of_not_B h))
theorem q_appd {x : Oper} {xs ys : List Oper} (h : St n D w0 F L (WQ P ops w0 L γ T k E (x :: List.append xs ys))) : St n D w0 F L (WQ P ops w0 L γ T k E (List.append (x :: xs) ys)) := h
theorem q_appn {ys : List Oper} (h : St n D w0 F L (WQ P ops w0 L γ T k E ys)) : St n D w0 F L (WQ P ops w0 L γ T k E (List.append [] ys)) := h
theorem o_appd {x : Oper} {xs ys : List Oper} (h : St n D w0 F L (WL r P ops Q (x :: List.append xs ys))) : St n D w0 F L (WL r P ops Q (List.append (x :: xs) ys)) := h
theorem o_appn {ys : List Oper} (h : St n D w0 F L (WL r P ops Q ys)) : St n D w0 F L (WL r P ops Q (List.append [] ys)) := h
end
end Go.Sx
